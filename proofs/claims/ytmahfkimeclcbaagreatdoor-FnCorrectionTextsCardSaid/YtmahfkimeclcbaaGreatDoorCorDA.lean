/-
  YtmahfkimeclcbaaGreatDoorCorDA: corrections: the draw of a correction. (Printed by wip/gen/cordr.py.)
-/
import Derived.Test.YtmahfkimeclcbaaGreatDoorCorB
import Derived.Test.YtmahfkimeclcbaaGreatDoorOf
namespace Go.Proofs.YtmahfkimeclcbaaGreatDoor
open Go Go.RowKit Go.Sort
set_option linter.unusedVariables false

/-- A new block as a row of one element. -/
theorem own_one {α : Type} {enc : α → List Value} {sz : Nat} (w : World) (cs : Array Value) (e : TypeId) (y : α) (hcs : cs.toList = enc y) (he : (enc y).length = sz) : Own enc sz (w.alloc (.cells cs e)) w.heap.size e (some ⟨w.heap.size, 0, none⟩) 1 1 [y] :=
  ⟨rfl, by
    have := World.ownsRow_lit (base := w.heap.size) (e := e) (size := sz) w cs 1 (Nat.le_refl _) (by simp [maxLen]) (by rw [Nat.one_mul, ← he, ← hcs, Array.length_toList])
    rw [hcs] at this
    simpa using this⟩
theorem mem_bd {x lo hi : Int} {l : List Int} (h : x ∈ l) (hb : ∀ y ∈ l, lo ≤ y ∧ y ≤ hi) : lo ≤ x ∧ x ≤ hi := hb x h
theorem bx_cells {w : World} {base b : Nat} {e : TypeId} {x0 : Int} {x1 : ByteArray} {x2 : ByteArray} (h : Own coV 3 w base e (some ⟨b, 0, none⟩) 1 1 [⟨x0, x1, x2⟩]) :
    (w.cell? ⟨b, 0, none⟩ = some (.int .i64 x0) ∧ w.cell? ⟨b, 1, none⟩ = some (.string x1) ∧ w.cell? ⟨b, 2, none⟩ = some (.string x2)) ∧ w.frozen? ⟨b, 0, none⟩ = false ∧ w.frozen? ⟨b, 1, none⟩ = false ∧ w.frozen? ⟨b, 2, none⟩ = false :=
  ⟨⟨by simpa using h.cell coV_len (i := 0) (j := 0) rfl rfl, by simpa using h.cell coV_len (i := 0) (j := 1) rfl rfl, by simpa using h.cell coV_len (i := 0) (j := 2) rfl rfl⟩, h.frozen 0, h.frozen 1, h.frozen 2⟩
theorem bx_set0 {w : World} {base b : Nat} {e : TypeId} {x0 : Int} {x1 : ByteArray} {x2 : ByteArray} (h : Own coV 3 w base e (some ⟨b, 0, none⟩) 1 1 [⟨x0, x1, x2⟩]) (z : Int) : Own coV 3 (w.setCell ⟨b, 0, none⟩ (.int .i64 z)) base e (some ⟨b, 0, none⟩) 1 1 [⟨z, x1, x2⟩] ∧ w.grownBy (w.setCell ⟨b, 0, none⟩ (.int .i64 z)) (some b) := by
  simpa using h.store coV_len (i := 0) (j := 0) rfl (by omega) (⟨z, x1, x2⟩ : CO) (.int .i64 z) rfl
theorem bx_set1 {w : World} {base b : Nat} {e : TypeId} {x0 : Int} {x1 : ByteArray} {x2 : ByteArray} (h : Own coV 3 w base e (some ⟨b, 0, none⟩) 1 1 [⟨x0, x1, x2⟩]) (z : ByteArray) : Own coV 3 (w.setCell ⟨b, 1, none⟩ (.string z)) base e (some ⟨b, 0, none⟩) 1 1 [⟨x0, z, x2⟩] ∧ w.grownBy (w.setCell ⟨b, 1, none⟩ (.string z)) (some b) := by
  simpa using h.store coV_len (i := 0) (j := 1) rfl (by omega) (⟨x0, z, x2⟩ : CO) (.string z) rfl
theorem bx_set2 {w : World} {base b : Nat} {e : TypeId} {x0 : Int} {x1 : ByteArray} {x2 : ByteArray} (h : Own coV 3 w base e (some ⟨b, 0, none⟩) 1 1 [⟨x0, x1, x2⟩]) (z : ByteArray) : Own coV 3 (w.setCell ⟨b, 2, none⟩ (.string z)) base e (some ⟨b, 0, none⟩) 1 1 [⟨x0, x1, z⟩] ∧ w.grownBy (w.setCell ⟨b, 2, none⟩ (.string z)) (some b) := by
  simpa using h.store coV_len (i := 0) (j := 2) rfl (by omega) (⟨x0, x1, z⟩ : CO) (.string z) rfl
def CoS (x : CO) : Prop := x.old.size ≤ 60 ∧ x.new.size ≤ 60
theorem l1Least_any (a b : Int) (w : World) : Calls Tryz.prog 45 #[.int .i64 a, .int .i64 b] w fun e w' => e = .returned (.int .i64 (if a < b then a else b)) ∧ w = w' := by
  by_cases h : a < b
  · rw [if_pos h]
    go_enter Tryz.func45, Tryz.ntmps45
    go_wp2
    go_ret
    exact ⟨rfl, rfl⟩
  · rw [if_neg h]
    go_enter Tryz.func45, Tryz.ntmps45
    go_wp2
    go_ret
    exact ⟨rfl, rfl⟩

theorem of_three {x a b c : ByteArray} {m : Nat} (h : x ∈ [a, b, c]) (ha : a.size ≤ m) (hb : b.size ≤ m) (hc : c.size ≤ m) : x.size ≤ m := by
  simp at h
  rcases h with rfl | rfl | rfl
  · exact ha
  · exact hb
  · exact hc


set_option maxRecDepth 100000 in
set_option maxHeartbeats 8000000 in
theorem correction_any (g K : Nat) (A : Option Addr) (n c : Nat) (l : List ByteArray) (w : World) (h : Cur w g K) (hK : K ≤ 100000) (hs : Rd stV 1 w A n c l) (hA : ∀ a, A = some a → a.block ≠ g) (hn : n ≤ 1000) (hl : ∀ s ∈ l, s.size ≤ 60) : Calls Tryz.prog 18 #[.pointer (some ⟨g, 0, none⟩), .slice A n c] w fun e w' => (∃ x : CO, e = .returned (.agg #[.int .i64 x.line, .string x.old, .string x.new]) ∧ CoS x) ∧ Cur w' g (K + 30) ∧ w.grownBy w' (some g) := by
  have SS0 := Lib.hid hs
  clear hs
  have hgw := h.lt
  have R0 := Lib.hid (own_one (enc := coV) w #[.int .i64 0, .string ⟨#[]⟩, .string ⟨#[]⟩] 25 (⟨0, ⟨#[]⟩, ⟨#[]⟩⟩ : CO) rfl rfl)
  have C0 := Lib.hid (h.below (below_alloc (.cells #[.int .i64 0, .string ⟨#[]⟩, .string ⟨#[]⟩] 25)))
  have G0 := Lib.hid (grown_of_below (below_alloc (w := w) (.cells #[.int .i64 0, .string ⟨#[]⟩, .string ⟨#[]⟩] 25)) (some g))
  have S0 := Lib.hid (SS0.out.below (below_alloc (.cells #[.int .i64 0, .string ⟨#[]⟩, .string ⟨#[]⟩] 25)))
  clear h SS0
  go_enter Tryz.func18, Tryz.ntmps18
  go_wp2_with fail
  refine (pick_any g K ((n : Int) + 1) _ (C0.out.le (by omega)) (by omega) (by omega) (by omega)).mono ?_
  rintro e w1 ⟨⟨x, rfl, x_0, x_1⟩, hc, hg⟩
  have C1 := Lib.hid hc
  have G1 := Lib.hid (grown_trans G0.out hg)
  have R1 := Lib.hid (R0.out.cur hg hgw)
  have S1 := Lib.hid (S0.out.cur hg hA)
  clear hc hg C0 G0 R0 S0
  have Cq := Lib.hid (C1.out.below (below_alloc (.cells #[.string ⟨#[108, 111, 115, 116]⟩, .string ⟨#[97]⟩, .string ⟨#[97, 98]⟩, .string ⟨#[116, 104, 101]⟩, .string ⟨#[109, 111, 118, 101, 100]⟩, .string ⟨#[120]⟩] 9)))
  have Gq := Lib.hid (grown_below G1.out (below_alloc (.cells #[.string ⟨#[108, 111, 115, 116]⟩, .string ⟨#[97]⟩, .string ⟨#[97, 98]⟩, .string ⟨#[116, 104, 101]⟩, .string ⟨#[109, 111, 118, 101, 100]⟩, .string ⟨#[120]⟩] 9)))
  have Rq := Lib.hid (R1.out.below (below_alloc (.cells #[.string ⟨#[108, 111, 115, 116]⟩, .string ⟨#[97]⟩, .string ⟨#[97, 98]⟩, .string ⟨#[116, 104, 101]⟩, .string ⟨#[109, 111, 118, 101, 100]⟩, .string ⟨#[120]⟩] 9)))
  have Sq := Lib.hid (S1.out.below (below_alloc (.cells #[.string ⟨#[108, 111, 115, 116]⟩, .string ⟨#[97]⟩, .string ⟨#[97, 98]⟩, .string ⟨#[116, 104, 101]⟩, .string ⟨#[109, 111, 118, 101, 100]⟩, .string ⟨#[120]⟩] 9)))
  go_wp2_with fail
  have Aq := Lib.hid (rd_lit (w := w1.alloc (.cells #[.string ⟨#[108, 111, 115, 116]⟩, .string ⟨#[97]⟩, .string ⟨#[97, 98]⟩, .string ⟨#[116, 104, 101]⟩, .string ⟨#[109, 111, 118, 101, 100]⟩, .string ⟨#[120]⟩] 9)) (k := w1.heap.size) (n := 6) (l := ([⟨#[108, 111, 115, 116]⟩, ⟨#[97]⟩, ⟨#[97, 98]⟩, ⟨#[116, 104, 101]⟩, ⟨#[109, 111, 118, 101, 100]⟩, ⟨#[120]⟩] : List ByteArray)) (enc := stV) (heap_new (by first | rfl | simp)) stV_len rfl (by simp [maxLen]) rfl)
  have hgs : g < w1.heap.size := by first | omega | (have := C1.out.lt; simpa using this)
  refine (of_any g (K + 2) _ 6 6 _ _ (Cq.out.le (by omega)) (by omega) Aq.out (by omega) (by omega) (fun a ha => by injection ha with ha; subst ha; first | omega | (simp; done) | (simp; omega) | (simp at hgs ⊢; omega))).mono ?_
  rintro e w2 ⟨⟨h, rfl, hx⟩, hc, hg⟩
  have Xh := Lib.hid (of_sz (m := 24) hx (by decide))
  have C2 := Lib.hid hc
  have G2 := Lib.hid (grown_trans Gq.out hg)
  have R2 := Lib.hid (Rq.out.cur hg hgw)
  have S2 := Lib.hid (Sq.out.cur hg hA)
  clear hx hc hg hgs Cq Gq Aq C1 G1 Rq R1 Sq S1
  have Cq := Lib.hid (C2.out.below (below_alloc (.cells #[.string ⟨#[]⟩, .string ⟨#[119, 111, 110]⟩, .string ⟨#[98]⟩, .string ⟨#[97, 98, 99, 100]⟩, .string ⟨#[116, 104, 101]⟩] 9)))
  have Gq := Lib.hid (grown_below G2.out (below_alloc (.cells #[.string ⟨#[]⟩, .string ⟨#[119, 111, 110]⟩, .string ⟨#[98]⟩, .string ⟨#[97, 98, 99, 100]⟩, .string ⟨#[116, 104, 101]⟩] 9)))
  have Rq := Lib.hid (R2.out.below (below_alloc (.cells #[.string ⟨#[]⟩, .string ⟨#[119, 111, 110]⟩, .string ⟨#[98]⟩, .string ⟨#[97, 98, 99, 100]⟩, .string ⟨#[116, 104, 101]⟩] 9)))
  have Sq := Lib.hid (S2.out.below (below_alloc (.cells #[.string ⟨#[]⟩, .string ⟨#[119, 111, 110]⟩, .string ⟨#[98]⟩, .string ⟨#[97, 98, 99, 100]⟩, .string ⟨#[116, 104, 101]⟩] 9)))
  go_wp2_with fail
  have Aq := Lib.hid (rd_lit (w := w2.alloc (.cells #[.string ⟨#[]⟩, .string ⟨#[119, 111, 110]⟩, .string ⟨#[98]⟩, .string ⟨#[97, 98, 99, 100]⟩, .string ⟨#[116, 104, 101]⟩] 9)) (k := w2.heap.size) (n := 5) (l := ([⟨#[]⟩, ⟨#[119, 111, 110]⟩, ⟨#[98]⟩, ⟨#[97, 98, 99, 100]⟩, ⟨#[116, 104, 101]⟩] : List ByteArray)) (enc := stV) (heap_new (by first | rfl | simp)) stV_len rfl (by simp [maxLen]) rfl)
  have hgs : g < w2.heap.size := by first | omega | (have := C2.out.lt; simpa using this)
  refine (of_any g (K + 4) _ 5 5 _ _ (Cq.out.le (by omega)) (by omega) Aq.out (by omega) (by omega) (fun a ha => by injection ha with ha; subst ha; first | omega | (simp; done) | (simp; omega) | (simp at hgs ⊢; omega))).mono ?_
  rintro e w3 ⟨⟨v, rfl, hx⟩, hc, hg⟩
  have Xv := Lib.hid (of_sz (m := 24) hx (by decide))
  have C3 := Lib.hid hc
  have G3 := Lib.hid (grown_trans Gq.out hg)
  have R3 := Lib.hid (Rq.out.cur hg hgw)
  have S3 := Lib.hid (Sq.out.cur hg hA)
  clear hx hc hg hgs Cq Gq Aq C2 G2 Rq R2 Sq S2
  have S4 := Lib.hid (S3.out.below (below_alloc (.cells #[.int .i64 x, .string h, .string v] 25)))
  clear S3
  have hw3 := G3.out.size
  have hwb : w.heap.size < w3.heap.size := by have := (R3.out.lt (k := w.heap.size) rfl).2; exact this
  have hgb : g < w3.heap.size := by omega
  have B4 := Lib.hid ((own_one (enc := coV) w3 #[.int .i64 x, .string h, .string v] 25 (⟨x, h, v⟩ : CO) rfl rfl).base_le (b := w.heap.size) hw3)
  have C4 := Lib.hid (C3.out.below (below_alloc (.cells #[.int .i64 x, .string h, .string v] 25)))
  have G4 := Lib.hid (grown_below G3.out (below_alloc (.cells #[.int .i64 x, .string h, .string v] 25)))
  have R4 := Lib.hid (R3.out.below (below_alloc (.cells #[.int .i64 x, .string h, .string v] 25)))
  clear C3 G3 R3
  by_cases hxn : x < (n : Int)
  · obtain ⟨xn, rfl⟩ := Int.eq_ofNat_of_zero_le x_0
    have hxn' : xn < n := by omega
    obtain ⟨bb, oo, sx, hAe, hsx, d0⟩ := S4.out.st hxn'
    subst hAe
    have hz := hl sx (List.mem_of_getElem? hsx)
    have HSX := Lib.hid hsx
    clear hsx
    obtain ⟨⟨q04, q14, q24⟩, k04, k14, k24⟩ := bx_cells B4.out
    by_cases h2 : 2 < sx.size
    · have h2' : (2 : Int) < (sx.size : Int) := by omega
      go_wp2_with fail
      refine (one_any g (K + 6) 3 _ (C4.out.le (by omega)) (by omega) (by omega) (by omega)).mono ?_
      rintro e w5 ⟨⟨y3, rfl⟩, hc, hg⟩
      have C5 := Lib.hid hc
      have G5 := Lib.hid (grown_trans G4.out hg)
      have R5 := Lib.hid (R4.out.cur hg hgw)
      have B5 := Lib.hid (B4.out.cur hg hgw)
      have S5 := Lib.hid (S4.out.cur hg hA)
      clear hc hg C4 G4 R4 B4 S4
      cases y3
      · obtain ⟨bb', oo', sx', hAe', hsx', d1⟩ := S5.out.st hxn'
        injection hAe' with hAe'
        injection hAe' with hb' ho'
        subst hb' ho'
        obtain rfl : sx = sx' := (by have h5 := HSX.out; rw [hsx'] at h5; injection h5 with h5; exact h5.symm)
        obtain ⟨⟨q05, q15, q25⟩, k05, k15, k25⟩ := bx_cells B5.out
        go_wp2_with fail
        refine (pick_any g (K + 8) ((sx.size : Int) - 1) _ (C5.out.le (by omega)) (by omega) (by omega) (by omega)).mono ?_
        rintro e w6 ⟨⟨i, rfl, i_0, i_1⟩, hc, hg⟩
        have C6 := Lib.hid hc
        have G6 := Lib.hid (grown_trans G5.out hg)
        have R6 := Lib.hid (R5.out.cur hg hgw)
        have B6 := Lib.hid (B5.out.cur hg hgw)
        clear hc hg C5 G5 R5 B5
        obtain ⟨i, rfl⟩ := Int.eq_ofNat_of_zero_le i_0
        go_wp2_with fail
        refine (pick_any g (K + 10) 5 _ (C6.out.le (by omega)) (by omega) (by omega) (by omega)).mono ?_
        rintro e w7 ⟨⟨z, rfl, z_0, z_1⟩, hc, hg⟩
        have C7 := Lib.hid hc
        have G7 := Lib.hid (grown_trans G6.out hg)
        have R7 := Lib.hid (R6.out.cur hg hgw)
        have B7 := Lib.hid (B6.out.cur hg hgw)
        clear hc hg C6 G6 R6 B6
        obtain ⟨z, rfl⟩ := Int.eq_ofNat_of_zero_le z_0
        go_wp2_with fail
        refine (l1Least_any _ _ _).mono ?_
        rintro e wy ⟨rfl, rfl⟩
        obtain ⟨jj, hj⟩ : ∃ jj : Nat, (if (sx.size : Int) < (i : Int) + 1 + (z : Int) then (sx.size : Int) else (i : Int) + 1 + (z : Int)) = (jj : Int) := by
          by_cases hc : (sx.size : Int) < (i : Int) + 1 + (z : Int)
          · exact ⟨sx.size, if_pos hc⟩
          · exact ⟨i + 1 + z, by rw [if_neg hc]; omega⟩
        have hj2 : i ≤ jj ∧ jj ≤ sx.size := by
          by_cases hc : (sx.size : Int) < (i : Int) + 1 + (z : Int)
          · rw [if_pos hc] at hj; omega
          · rw [if_neg hc] at hj; omega
        have hj3 := hj2.1
        have hj4 := hj2.2
        rw [hj]
        clear hj
        have Xo := Lib.hid (show (sx.extract i jj).size ≤ 60 from by rw [ByteArray.size_extract]; omega)
        obtain ⟨⟨q07, q17, q27⟩, k07, k17, k27⟩ := bx_cells B7.out
        obtain ⟨bx0, gx0⟩ := bx_set1 B7.out (sx.extract i jj)
        have B7s := Lib.hid bx0
        have C7s := Lib.hid (C7.out.grown gx0 (fun k hk => by injection hk with hk; omega))
        have G7s := Lib.hid (grown_row G7.out gx0 (fun k hk => by injection hk with hk; omega))
        have R7s := Lib.hid (R7.out.grown gx0 (.inr (by simp [blockOf]; omega)))
        clear bx0 gx0 C7 G7 R7 B7
        go_wp2_with fail
        refine (pick_any g (K + 14) 40 _ (C7s.out.le (by omega)) (by omega) (by omega) (by omega)).mono ?_
        rintro e w8 ⟨⟨s, rfl, s_0, s_1⟩, hc, hg⟩
        have C8 := Lib.hid hc
        have G8 := Lib.hid (grown_trans G7s.out hg)
        have R8 := Lib.hid (R7s.out.cur hg hgw)
        have B8 := Lib.hid (B7s.out.cur hg hgw)
        clear hc hg C7s G7s R7s B7s
        by_cases hs0 : s = 0
        · subst hs0
          have Cq := Lib.hid (C8.out.below (below_alloc (.cells #[.int .i64 (-1), .int .i64 12] 3)))
          have Gq := Lib.hid (grown_below G8.out (below_alloc (.cells #[.int .i64 (-1), .int .i64 12] 3)))
          have Rq := Lib.hid (R8.out.below (below_alloc (.cells #[.int .i64 (-1), .int .i64 12] 3)))
          have Bq := Lib.hid (B8.out.below (below_alloc (.cells #[.int .i64 (-1), .int .i64 12] 3)))
          go_wp2_with fail
          have Aq := Lib.hid (rd_lit (w := w8.alloc (.cells #[.int .i64 (-1), .int .i64 12] 3)) (k := w8.heap.size) (n := 2) (l := ([(-1), 12] : List Int)) (enc := inV) (heap_new (by first | rfl | simp)) inV_len rfl (by simp [maxLen]) rfl)
          have hgs : g < w8.heap.size := by first | omega | (have := C8.out.lt; simpa using this)
          refine (among_any g (K + 16) _ 2 2 _ _ (Cq.out.le (by omega)) (by omega) Aq.out (by omega) (by omega) (fun a ha => by injection ha with ha; subst ha; first | omega | (simp; done) | (simp; omega) | (simp at hgs ⊢; omega))).mono ?_
          rintro e w9 ⟨⟨t, rfl, hx⟩, hc, hg⟩
          have Xt := Lib.hid (mem_bd (lo := -1) (hi := 12) hx (by decide))
          have C9 := Lib.hid hc
          have G9 := Lib.hid (grown_trans Gq.out hg)
          have R9 := Lib.hid (Rq.out.cur hg hgw)
          have B9 := Lib.hid (Bq.out.cur hg hgw)
          clear hx hc hg hgs Cq Gq Aq C8 G8 Rq R8 Bq B8
          obtain ⟨⟨q09, q19, q29⟩, k09, k19, k29⟩ := bx_cells B9.out
          obtain ⟨bx0, gx0⟩ := bx_set0 B9.out (t)
          have BA := Lib.hid bx0
          have CA := Lib.hid (C9.out.grown gx0 (fun k hk => by injection hk with hk; omega))
          have GA := Lib.hid (grown_row G9.out gx0 (fun k hk => by injection hk with hk; omega))
          have RA := Lib.hid (R9.out.grown gx0 (.inr (by simp [blockOf]; omega)))
          clear bx0 gx0 C9 G9 R9 B9
          obtain ⟨⟨q0A, q1A, q2A⟩, k0A, k1A, k2A⟩ := bx_cells BA.out
          obtain ⟨⟨r0, r1, r2⟩, z0, z1, z2⟩ := bx_cells RA.out
          obtain ⟨y0, g0⟩ := bx_set0 RA.out (t)
          obtain ⟨y1, g1⟩ := bx_set1 y0 ((sx.extract i jj))
          obtain ⟨y2, g2⟩ := bx_set2 y1 (v)
          have CF := Lib.hid ((CA.out.grown (grown_trans (grown_trans g0 g1) g2) (fun k hk => by injection hk with hk; omega)).le (K' := K + 30) (by omega))
          have GF := Lib.hid (grown_row GA.out (grown_trans (grown_trans g0 g1) g2) (fun k hk => by injection hk with hk; omega))
          obtain ⟨⟨v0, v1, v2⟩, -⟩ := bx_cells y2
          clear y0 y1 y2 g0 g1 g2
          go_wp2
          exact bodyPost_ret (v := .agg #[.int .i64 (t), .string ((sx.extract i jj)), .string (v)]) (by simp [results, Tryz.results18, go_sem, v0, v1, v2]) rfl ⟨⟨⟨t, (sx.extract i jj), v⟩, rfl, ⟨(show ((sx.extract i jj) : ByteArray).size ≤ 60 from Xo.out), (show (v : ByteArray).size ≤ 60 from Nat.le_trans Xv.out (by omega))⟩⟩, CF.out, GF.out⟩
        have es0 : (s == 0) = false := by simp; omega
        by_cases hs1 : s = 1
        · subst hs1
          obtain ⟨⟨q08, q18, q28⟩, k08, k18, k28⟩ := bx_cells B8.out
          have Cq := Lib.hid (C8.out.below (below_alloc (.cells #[.string ⟨#[]⟩, .string v, .string ⟨#[48, 49, 50, 51, 52, 53, 54, 55, 56, 57, 48, 49, 50, 51, 52, 53, 54, 55, 56, 57, 48]⟩] 9)))
          have Gq := Lib.hid (grown_below G8.out (below_alloc (.cells #[.string ⟨#[]⟩, .string v, .string ⟨#[48, 49, 50, 51, 52, 53, 54, 55, 56, 57, 48, 49, 50, 51, 52, 53, 54, 55, 56, 57, 48]⟩] 9)))
          have Rq := Lib.hid (R8.out.below (below_alloc (.cells #[.string ⟨#[]⟩, .string v, .string ⟨#[48, 49, 50, 51, 52, 53, 54, 55, 56, 57, 48, 49, 50, 51, 52, 53, 54, 55, 56, 57, 48]⟩] 9)))
          have Bq := Lib.hid (B8.out.below (below_alloc (.cells #[.string ⟨#[]⟩, .string v, .string ⟨#[48, 49, 50, 51, 52, 53, 54, 55, 56, 57, 48, 49, 50, 51, 52, 53, 54, 55, 56, 57, 48]⟩] 9)))
          go_wp2_with fail
          have Aq := Lib.hid (rd_lit (w := w8.alloc (.cells #[.string ⟨#[]⟩, .string v, .string ⟨#[48, 49, 50, 51, 52, 53, 54, 55, 56, 57, 48, 49, 50, 51, 52, 53, 54, 55, 56, 57, 48]⟩] 9)) (k := w8.heap.size) (n := 3) (l := ([⟨#[]⟩, v, ⟨#[48, 49, 50, 51, 52, 53, 54, 55, 56, 57, 48, 49, 50, 51, 52, 53, 54, 55, 56, 57, 48]⟩] : List ByteArray)) (enc := stV) (heap_new (by first | rfl | simp)) stV_len rfl (by simp [maxLen]) rfl)
          have hgs : g < w8.heap.size := by first | omega | (have := C8.out.lt; simpa using this)
          refine (of_any g (K + 16) _ 3 3 _ _ (Cq.out.le (by omega)) (by omega) Aq.out (by omega) (by omega) (fun a ha => by injection ha with ha; subst ha; first | omega | (simp; done) | (simp; omega) | (simp at hgs ⊢; omega))).mono ?_
          rintro e w9 ⟨⟨t, rfl, hx⟩, hc, hg⟩
          have Xt := Lib.hid (of_three (a := ⟨#[]⟩) (b := v) (c := ⟨#[48, 49, 50, 51, 52, 53, 54, 55, 56, 57, 48, 49, 50, 51, 52, 53, 54, 55, 56, 57, 48]⟩) hx (by decide) Xv.out (by decide))
          have C9 := Lib.hid hc
          have G9 := Lib.hid (grown_trans Gq.out hg)
          have R9 := Lib.hid (Rq.out.cur hg hgw)
          have B9 := Lib.hid (Bq.out.cur hg hgw)
          clear hx hc hg hgs Cq Gq Aq C8 G8 Rq R8 Bq B8
          obtain ⟨⟨q09, q19, q29⟩, k09, k19, k29⟩ := bx_cells B9.out
          obtain ⟨bx0, gx0⟩ := bx_set1 B9.out (t)
          have BA := Lib.hid bx0
          have CA := Lib.hid (C9.out.grown gx0 (fun k hk => by injection hk with hk; omega))
          have GA := Lib.hid (grown_row G9.out gx0 (fun k hk => by injection hk with hk; omega))
          have RA := Lib.hid (R9.out.grown gx0 (.inr (by simp [blockOf]; omega)))
          clear bx0 gx0 C9 G9 R9 B9
          obtain ⟨⟨q0A, q1A, q2A⟩, k0A, k1A, k2A⟩ := bx_cells BA.out
          obtain ⟨⟨r0, r1, r2⟩, z0, z1, z2⟩ := bx_cells RA.out
          obtain ⟨y0, g0⟩ := bx_set0 RA.out ((xn : Int))
          obtain ⟨y1, g1⟩ := bx_set1 y0 (t)
          obtain ⟨y2, g2⟩ := bx_set2 y1 (v)
          have CF := Lib.hid ((CA.out.grown (grown_trans (grown_trans g0 g1) g2) (fun k hk => by injection hk with hk; omega)).le (K' := K + 30) (by omega))
          have GF := Lib.hid (grown_row GA.out (grown_trans (grown_trans g0 g1) g2) (fun k hk => by injection hk with hk; omega))
          obtain ⟨⟨v0, v1, v2⟩, -⟩ := bx_cells y2
          clear y0 y1 y2 g0 g1 g2
          go_wp2
          exact bodyPost_ret (v := .agg #[.int .i64 ((xn : Int)), .string (t), .string (v)]) (by simp [results, Tryz.results18, go_sem, v0, v1, v2]) rfl ⟨⟨⟨(xn : Int), t, v⟩, rfl, ⟨(show (t : ByteArray).size ≤ 60 from Nat.le_trans Xt.out (by omega)), (show (v : ByteArray).size ≤ 60 from Nat.le_trans Xv.out (by omega))⟩⟩, CF.out, GF.out⟩
        have es1 : (s == 1) = false := by simp; omega
        by_cases hs2 : s = 2
        · subst hs2
          have Cq := Lib.hid (C8.out.below (below_alloc (.cells #[.string ⟨#[34]⟩, .string ⟨#[9]⟩, .string ⟨#[48, 49, 50, 51, 52, 53, 54, 55, 56, 57, 48, 49, 50, 51, 52, 53, 54, 55, 56, 57]⟩, .string ⟨#[48, 49, 50, 51, 52, 53, 54, 55, 56, 57, 48, 49, 50, 51, 52, 53, 54, 55, 56, 57, 48]⟩] 9)))
          have Gq := Lib.hid (grown_below G8.out (below_alloc (.cells #[.string ⟨#[34]⟩, .string ⟨#[9]⟩, .string ⟨#[48, 49, 50, 51, 52, 53, 54, 55, 56, 57, 48, 49, 50, 51, 52, 53, 54, 55, 56, 57]⟩, .string ⟨#[48, 49, 50, 51, 52, 53, 54, 55, 56, 57, 48, 49, 50, 51, 52, 53, 54, 55, 56, 57, 48]⟩] 9)))
          have Rq := Lib.hid (R8.out.below (below_alloc (.cells #[.string ⟨#[34]⟩, .string ⟨#[9]⟩, .string ⟨#[48, 49, 50, 51, 52, 53, 54, 55, 56, 57, 48, 49, 50, 51, 52, 53, 54, 55, 56, 57]⟩, .string ⟨#[48, 49, 50, 51, 52, 53, 54, 55, 56, 57, 48, 49, 50, 51, 52, 53, 54, 55, 56, 57, 48]⟩] 9)))
          have Bq := Lib.hid (B8.out.below (below_alloc (.cells #[.string ⟨#[34]⟩, .string ⟨#[9]⟩, .string ⟨#[48, 49, 50, 51, 52, 53, 54, 55, 56, 57, 48, 49, 50, 51, 52, 53, 54, 55, 56, 57]⟩, .string ⟨#[48, 49, 50, 51, 52, 53, 54, 55, 56, 57, 48, 49, 50, 51, 52, 53, 54, 55, 56, 57, 48]⟩] 9)))
          go_wp2_with fail
          have Aq := Lib.hid (rd_lit (w := w8.alloc (.cells #[.string ⟨#[34]⟩, .string ⟨#[9]⟩, .string ⟨#[48, 49, 50, 51, 52, 53, 54, 55, 56, 57, 48, 49, 50, 51, 52, 53, 54, 55, 56, 57]⟩, .string ⟨#[48, 49, 50, 51, 52, 53, 54, 55, 56, 57, 48, 49, 50, 51, 52, 53, 54, 55, 56, 57, 48]⟩] 9)) (k := w8.heap.size) (n := 4) (l := ([⟨#[34]⟩, ⟨#[9]⟩, ⟨#[48, 49, 50, 51, 52, 53, 54, 55, 56, 57, 48, 49, 50, 51, 52, 53, 54, 55, 56, 57]⟩, ⟨#[48, 49, 50, 51, 52, 53, 54, 55, 56, 57, 48, 49, 50, 51, 52, 53, 54, 55, 56, 57, 48]⟩] : List ByteArray)) (enc := stV) (heap_new (by first | rfl | simp)) stV_len rfl (by simp [maxLen]) rfl)
          have hgs : g < w8.heap.size := by first | omega | (have := C8.out.lt; simpa using this)
          refine (of_any g (K + 16) _ 4 4 _ _ (Cq.out.le (by omega)) (by omega) Aq.out (by omega) (by omega) (fun a ha => by injection ha with ha; subst ha; first | omega | (simp; done) | (simp; omega) | (simp at hgs ⊢; omega))).mono ?_
          rintro e w9 ⟨⟨t, rfl, hx⟩, hc, hg⟩
          have Xt := Lib.hid (of_sz (m := 24) hx (by decide))
          have C9 := Lib.hid hc
          have G9 := Lib.hid (grown_trans Gq.out hg)
          have R9 := Lib.hid (Rq.out.cur hg hgw)
          have B9 := Lib.hid (Bq.out.cur hg hgw)
          clear hx hc hg hgs Cq Gq Aq C8 G8 Rq R8 Bq B8
          obtain ⟨⟨q09, q19, q29⟩, k09, k19, k29⟩ := bx_cells B9.out
          obtain ⟨bx0, gx0⟩ := bx_set2 B9.out (t)
          have BA := Lib.hid bx0
          have CA := Lib.hid (C9.out.grown gx0 (fun k hk => by injection hk with hk; omega))
          have GA := Lib.hid (grown_row G9.out gx0 (fun k hk => by injection hk with hk; omega))
          have RA := Lib.hid (R9.out.grown gx0 (.inr (by simp [blockOf]; omega)))
          clear bx0 gx0 C9 G9 R9 B9
          obtain ⟨⟨q0A, q1A, q2A⟩, k0A, k1A, k2A⟩ := bx_cells BA.out
          obtain ⟨⟨r0, r1, r2⟩, z0, z1, z2⟩ := bx_cells RA.out
          obtain ⟨y0, g0⟩ := bx_set0 RA.out ((xn : Int))
          obtain ⟨y1, g1⟩ := bx_set1 y0 ((sx.extract i jj))
          obtain ⟨y2, g2⟩ := bx_set2 y1 (t)
          have CF := Lib.hid ((CA.out.grown (grown_trans (grown_trans g0 g1) g2) (fun k hk => by injection hk with hk; omega)).le (K' := K + 30) (by omega))
          have GF := Lib.hid (grown_row GA.out (grown_trans (grown_trans g0 g1) g2) (fun k hk => by injection hk with hk; omega))
          obtain ⟨⟨v0, v1, v2⟩, -⟩ := bx_cells y2
          clear y0 y1 y2 g0 g1 g2
          go_wp2
          exact bodyPost_ret (v := .agg #[.int .i64 ((xn : Int)), .string ((sx.extract i jj)), .string (t)]) (by simp [results, Tryz.results18, go_sem, v0, v1, v2]) rfl ⟨⟨⟨(xn : Int), (sx.extract i jj), t⟩, rfl, ⟨(show ((sx.extract i jj) : ByteArray).size ≤ 60 from Xo.out), (show (t : ByteArray).size ≤ 60 from Nat.le_trans Xt.out (by omega))⟩⟩, CF.out, GF.out⟩
        have es2 : (s == 2) = false := by simp; omega
        obtain ⟨⟨q08, q18, q28⟩, k08, k18, k28⟩ := bx_cells B8.out
        obtain ⟨⟨r0, r1, r2⟩, z0, z1, z2⟩ := bx_cells R8.out
        obtain ⟨y0, g0⟩ := bx_set0 R8.out ((xn : Int))
        obtain ⟨y1, g1⟩ := bx_set1 y0 ((sx.extract i jj))
        obtain ⟨y2, g2⟩ := bx_set2 y1 (v)
        have CF := Lib.hid ((C8.out.grown (grown_trans (grown_trans g0 g1) g2) (fun k hk => by injection hk with hk; omega)).le (K' := K + 30) (by omega))
        have GF := Lib.hid (grown_row G8.out (grown_trans (grown_trans g0 g1) g2) (fun k hk => by injection hk with hk; omega))
        obtain ⟨⟨v0, v1, v2⟩, -⟩ := bx_cells y2
        clear y0 y1 y2 g0 g1 g2
        go_wp2
        exact bodyPost_ret (v := .agg #[.int .i64 ((xn : Int)), .string ((sx.extract i jj)), .string (v)]) (by simp [results, Tryz.results18, go_sem, v0, v1, v2]) rfl ⟨⟨⟨(xn : Int), (sx.extract i jj), v⟩, rfl, ⟨(show ((sx.extract i jj) : ByteArray).size ≤ 60 from Xo.out), (show (v : ByteArray).size ≤ 60 from Nat.le_trans Xv.out (by omega))⟩⟩, CF.out, GF.out⟩
      · clear S5
        go_wp2_with fail
        refine (pick_any g (K + 14) 40 _ (C5.out.le (by omega)) (by omega) (by omega) (by omega)).mono ?_
        rintro e w8 ⟨⟨s, rfl, s_0, s_1⟩, hc, hg⟩
        have C8 := Lib.hid hc
        have G8 := Lib.hid (grown_trans G5.out hg)
        have R8 := Lib.hid (R5.out.cur hg hgw)
        have B8 := Lib.hid (B5.out.cur hg hgw)
        clear hc hg C5 G5 R5 B5
        by_cases hs0 : s = 0
        · subst hs0
          have Cq := Lib.hid (C8.out.below (below_alloc (.cells #[.int .i64 (-1), .int .i64 12] 3)))
          have Gq := Lib.hid (grown_below G8.out (below_alloc (.cells #[.int .i64 (-1), .int .i64 12] 3)))
          have Rq := Lib.hid (R8.out.below (below_alloc (.cells #[.int .i64 (-1), .int .i64 12] 3)))
          have Bq := Lib.hid (B8.out.below (below_alloc (.cells #[.int .i64 (-1), .int .i64 12] 3)))
          go_wp2_with fail
          have Aq := Lib.hid (rd_lit (w := w8.alloc (.cells #[.int .i64 (-1), .int .i64 12] 3)) (k := w8.heap.size) (n := 2) (l := ([(-1), 12] : List Int)) (enc := inV) (heap_new (by first | rfl | simp)) inV_len rfl (by simp [maxLen]) rfl)
          have hgs : g < w8.heap.size := by first | omega | (have := C8.out.lt; simpa using this)
          refine (among_any g (K + 16) _ 2 2 _ _ (Cq.out.le (by omega)) (by omega) Aq.out (by omega) (by omega) (fun a ha => by injection ha with ha; subst ha; first | omega | (simp; done) | (simp; omega) | (simp at hgs ⊢; omega))).mono ?_
          rintro e w9 ⟨⟨t, rfl, hx⟩, hc, hg⟩
          have Xt := Lib.hid (mem_bd (lo := -1) (hi := 12) hx (by decide))
          have C9 := Lib.hid hc
          have G9 := Lib.hid (grown_trans Gq.out hg)
          have R9 := Lib.hid (Rq.out.cur hg hgw)
          have B9 := Lib.hid (Bq.out.cur hg hgw)
          clear hx hc hg hgs Cq Gq Aq C8 G8 Rq R8 Bq B8
          obtain ⟨⟨q09, q19, q29⟩, k09, k19, k29⟩ := bx_cells B9.out
          obtain ⟨bx0, gx0⟩ := bx_set0 B9.out (t)
          have BA := Lib.hid bx0
          have CA := Lib.hid (C9.out.grown gx0 (fun k hk => by injection hk with hk; omega))
          have GA := Lib.hid (grown_row G9.out gx0 (fun k hk => by injection hk with hk; omega))
          have RA := Lib.hid (R9.out.grown gx0 (.inr (by simp [blockOf]; omega)))
          clear bx0 gx0 C9 G9 R9 B9
          obtain ⟨⟨q0A, q1A, q2A⟩, k0A, k1A, k2A⟩ := bx_cells BA.out
          obtain ⟨⟨r0, r1, r2⟩, z0, z1, z2⟩ := bx_cells RA.out
          obtain ⟨y0, g0⟩ := bx_set0 RA.out (t)
          obtain ⟨y1, g1⟩ := bx_set1 y0 (h)
          obtain ⟨y2, g2⟩ := bx_set2 y1 (v)
          have CF := Lib.hid ((CA.out.grown (grown_trans (grown_trans g0 g1) g2) (fun k hk => by injection hk with hk; omega)).le (K' := K + 30) (by omega))
          have GF := Lib.hid (grown_row GA.out (grown_trans (grown_trans g0 g1) g2) (fun k hk => by injection hk with hk; omega))
          obtain ⟨⟨v0, v1, v2⟩, -⟩ := bx_cells y2
          clear y0 y1 y2 g0 g1 g2
          go_wp2
          exact bodyPost_ret (v := .agg #[.int .i64 (t), .string (h), .string (v)]) (by simp [results, Tryz.results18, go_sem, v0, v1, v2]) rfl ⟨⟨⟨t, h, v⟩, rfl, ⟨(show (h : ByteArray).size ≤ 60 from Nat.le_trans Xh.out (by omega)), (show (v : ByteArray).size ≤ 60 from Nat.le_trans Xv.out (by omega))⟩⟩, CF.out, GF.out⟩
        have es0 : (s == 0) = false := by simp; omega
        by_cases hs1 : s = 1
        · subst hs1
          obtain ⟨⟨q08, q18, q28⟩, k08, k18, k28⟩ := bx_cells B8.out
          have Cq := Lib.hid (C8.out.below (below_alloc (.cells #[.string ⟨#[]⟩, .string v, .string ⟨#[48, 49, 50, 51, 52, 53, 54, 55, 56, 57, 48, 49, 50, 51, 52, 53, 54, 55, 56, 57, 48]⟩] 9)))
          have Gq := Lib.hid (grown_below G8.out (below_alloc (.cells #[.string ⟨#[]⟩, .string v, .string ⟨#[48, 49, 50, 51, 52, 53, 54, 55, 56, 57, 48, 49, 50, 51, 52, 53, 54, 55, 56, 57, 48]⟩] 9)))
          have Rq := Lib.hid (R8.out.below (below_alloc (.cells #[.string ⟨#[]⟩, .string v, .string ⟨#[48, 49, 50, 51, 52, 53, 54, 55, 56, 57, 48, 49, 50, 51, 52, 53, 54, 55, 56, 57, 48]⟩] 9)))
          have Bq := Lib.hid (B8.out.below (below_alloc (.cells #[.string ⟨#[]⟩, .string v, .string ⟨#[48, 49, 50, 51, 52, 53, 54, 55, 56, 57, 48, 49, 50, 51, 52, 53, 54, 55, 56, 57, 48]⟩] 9)))
          go_wp2_with fail
          have Aq := Lib.hid (rd_lit (w := w8.alloc (.cells #[.string ⟨#[]⟩, .string v, .string ⟨#[48, 49, 50, 51, 52, 53, 54, 55, 56, 57, 48, 49, 50, 51, 52, 53, 54, 55, 56, 57, 48]⟩] 9)) (k := w8.heap.size) (n := 3) (l := ([⟨#[]⟩, v, ⟨#[48, 49, 50, 51, 52, 53, 54, 55, 56, 57, 48, 49, 50, 51, 52, 53, 54, 55, 56, 57, 48]⟩] : List ByteArray)) (enc := stV) (heap_new (by first | rfl | simp)) stV_len rfl (by simp [maxLen]) rfl)
          have hgs : g < w8.heap.size := by first | omega | (have := C8.out.lt; simpa using this)
          refine (of_any g (K + 16) _ 3 3 _ _ (Cq.out.le (by omega)) (by omega) Aq.out (by omega) (by omega) (fun a ha => by injection ha with ha; subst ha; first | omega | (simp; done) | (simp; omega) | (simp at hgs ⊢; omega))).mono ?_
          rintro e w9 ⟨⟨t, rfl, hx⟩, hc, hg⟩
          have Xt := Lib.hid (of_three (a := ⟨#[]⟩) (b := v) (c := ⟨#[48, 49, 50, 51, 52, 53, 54, 55, 56, 57, 48, 49, 50, 51, 52, 53, 54, 55, 56, 57, 48]⟩) hx (by decide) Xv.out (by decide))
          have C9 := Lib.hid hc
          have G9 := Lib.hid (grown_trans Gq.out hg)
          have R9 := Lib.hid (Rq.out.cur hg hgw)
          have B9 := Lib.hid (Bq.out.cur hg hgw)
          clear hx hc hg hgs Cq Gq Aq C8 G8 Rq R8 Bq B8
          obtain ⟨⟨q09, q19, q29⟩, k09, k19, k29⟩ := bx_cells B9.out
          obtain ⟨bx0, gx0⟩ := bx_set1 B9.out (t)
          have BA := Lib.hid bx0
          have CA := Lib.hid (C9.out.grown gx0 (fun k hk => by injection hk with hk; omega))
          have GA := Lib.hid (grown_row G9.out gx0 (fun k hk => by injection hk with hk; omega))
          have RA := Lib.hid (R9.out.grown gx0 (.inr (by simp [blockOf]; omega)))
          clear bx0 gx0 C9 G9 R9 B9
          obtain ⟨⟨q0A, q1A, q2A⟩, k0A, k1A, k2A⟩ := bx_cells BA.out
          obtain ⟨⟨r0, r1, r2⟩, z0, z1, z2⟩ := bx_cells RA.out
          obtain ⟨y0, g0⟩ := bx_set0 RA.out ((xn : Int))
          obtain ⟨y1, g1⟩ := bx_set1 y0 (t)
          obtain ⟨y2, g2⟩ := bx_set2 y1 (v)
          have CF := Lib.hid ((CA.out.grown (grown_trans (grown_trans g0 g1) g2) (fun k hk => by injection hk with hk; omega)).le (K' := K + 30) (by omega))
          have GF := Lib.hid (grown_row GA.out (grown_trans (grown_trans g0 g1) g2) (fun k hk => by injection hk with hk; omega))
          obtain ⟨⟨v0, v1, v2⟩, -⟩ := bx_cells y2
          clear y0 y1 y2 g0 g1 g2
          go_wp2
          exact bodyPost_ret (v := .agg #[.int .i64 ((xn : Int)), .string (t), .string (v)]) (by simp [results, Tryz.results18, go_sem, v0, v1, v2]) rfl ⟨⟨⟨(xn : Int), t, v⟩, rfl, ⟨(show (t : ByteArray).size ≤ 60 from Nat.le_trans Xt.out (by omega)), (show (v : ByteArray).size ≤ 60 from Nat.le_trans Xv.out (by omega))⟩⟩, CF.out, GF.out⟩
        have es1 : (s == 1) = false := by simp; omega
        by_cases hs2 : s = 2
        · subst hs2
          have Cq := Lib.hid (C8.out.below (below_alloc (.cells #[.string ⟨#[34]⟩, .string ⟨#[9]⟩, .string ⟨#[48, 49, 50, 51, 52, 53, 54, 55, 56, 57, 48, 49, 50, 51, 52, 53, 54, 55, 56, 57]⟩, .string ⟨#[48, 49, 50, 51, 52, 53, 54, 55, 56, 57, 48, 49, 50, 51, 52, 53, 54, 55, 56, 57, 48]⟩] 9)))
          have Gq := Lib.hid (grown_below G8.out (below_alloc (.cells #[.string ⟨#[34]⟩, .string ⟨#[9]⟩, .string ⟨#[48, 49, 50, 51, 52, 53, 54, 55, 56, 57, 48, 49, 50, 51, 52, 53, 54, 55, 56, 57]⟩, .string ⟨#[48, 49, 50, 51, 52, 53, 54, 55, 56, 57, 48, 49, 50, 51, 52, 53, 54, 55, 56, 57, 48]⟩] 9)))
          have Rq := Lib.hid (R8.out.below (below_alloc (.cells #[.string ⟨#[34]⟩, .string ⟨#[9]⟩, .string ⟨#[48, 49, 50, 51, 52, 53, 54, 55, 56, 57, 48, 49, 50, 51, 52, 53, 54, 55, 56, 57]⟩, .string ⟨#[48, 49, 50, 51, 52, 53, 54, 55, 56, 57, 48, 49, 50, 51, 52, 53, 54, 55, 56, 57, 48]⟩] 9)))
          have Bq := Lib.hid (B8.out.below (below_alloc (.cells #[.string ⟨#[34]⟩, .string ⟨#[9]⟩, .string ⟨#[48, 49, 50, 51, 52, 53, 54, 55, 56, 57, 48, 49, 50, 51, 52, 53, 54, 55, 56, 57]⟩, .string ⟨#[48, 49, 50, 51, 52, 53, 54, 55, 56, 57, 48, 49, 50, 51, 52, 53, 54, 55, 56, 57, 48]⟩] 9)))
          go_wp2_with fail
          have Aq := Lib.hid (rd_lit (w := w8.alloc (.cells #[.string ⟨#[34]⟩, .string ⟨#[9]⟩, .string ⟨#[48, 49, 50, 51, 52, 53, 54, 55, 56, 57, 48, 49, 50, 51, 52, 53, 54, 55, 56, 57]⟩, .string ⟨#[48, 49, 50, 51, 52, 53, 54, 55, 56, 57, 48, 49, 50, 51, 52, 53, 54, 55, 56, 57, 48]⟩] 9)) (k := w8.heap.size) (n := 4) (l := ([⟨#[34]⟩, ⟨#[9]⟩, ⟨#[48, 49, 50, 51, 52, 53, 54, 55, 56, 57, 48, 49, 50, 51, 52, 53, 54, 55, 56, 57]⟩, ⟨#[48, 49, 50, 51, 52, 53, 54, 55, 56, 57, 48, 49, 50, 51, 52, 53, 54, 55, 56, 57, 48]⟩] : List ByteArray)) (enc := stV) (heap_new (by first | rfl | simp)) stV_len rfl (by simp [maxLen]) rfl)
          have hgs : g < w8.heap.size := by first | omega | (have := C8.out.lt; simpa using this)
          refine (of_any g (K + 16) _ 4 4 _ _ (Cq.out.le (by omega)) (by omega) Aq.out (by omega) (by omega) (fun a ha => by injection ha with ha; subst ha; first | omega | (simp; done) | (simp; omega) | (simp at hgs ⊢; omega))).mono ?_
          rintro e w9 ⟨⟨t, rfl, hx⟩, hc, hg⟩
          have Xt := Lib.hid (of_sz (m := 24) hx (by decide))
          have C9 := Lib.hid hc
          have G9 := Lib.hid (grown_trans Gq.out hg)
          have R9 := Lib.hid (Rq.out.cur hg hgw)
          have B9 := Lib.hid (Bq.out.cur hg hgw)
          clear hx hc hg hgs Cq Gq Aq C8 G8 Rq R8 Bq B8
          obtain ⟨⟨q09, q19, q29⟩, k09, k19, k29⟩ := bx_cells B9.out
          obtain ⟨bx0, gx0⟩ := bx_set2 B9.out (t)
          have BA := Lib.hid bx0
          have CA := Lib.hid (C9.out.grown gx0 (fun k hk => by injection hk with hk; omega))
          have GA := Lib.hid (grown_row G9.out gx0 (fun k hk => by injection hk with hk; omega))
          have RA := Lib.hid (R9.out.grown gx0 (.inr (by simp [blockOf]; omega)))
          clear bx0 gx0 C9 G9 R9 B9
          obtain ⟨⟨q0A, q1A, q2A⟩, k0A, k1A, k2A⟩ := bx_cells BA.out
          obtain ⟨⟨r0, r1, r2⟩, z0, z1, z2⟩ := bx_cells RA.out
          obtain ⟨y0, g0⟩ := bx_set0 RA.out ((xn : Int))
          obtain ⟨y1, g1⟩ := bx_set1 y0 (h)
          obtain ⟨y2, g2⟩ := bx_set2 y1 (t)
          have CF := Lib.hid ((CA.out.grown (grown_trans (grown_trans g0 g1) g2) (fun k hk => by injection hk with hk; omega)).le (K' := K + 30) (by omega))
          have GF := Lib.hid (grown_row GA.out (grown_trans (grown_trans g0 g1) g2) (fun k hk => by injection hk with hk; omega))
          obtain ⟨⟨v0, v1, v2⟩, -⟩ := bx_cells y2
          clear y0 y1 y2 g0 g1 g2
          go_wp2
          exact bodyPost_ret (v := .agg #[.int .i64 ((xn : Int)), .string (h), .string (t)]) (by simp [results, Tryz.results18, go_sem, v0, v1, v2]) rfl ⟨⟨⟨(xn : Int), h, t⟩, rfl, ⟨(show (h : ByteArray).size ≤ 60 from Nat.le_trans Xh.out (by omega)), (show (t : ByteArray).size ≤ 60 from Nat.le_trans Xt.out (by omega))⟩⟩, CF.out, GF.out⟩
        have es2 : (s == 2) = false := by simp; omega
        obtain ⟨⟨q08, q18, q28⟩, k08, k18, k28⟩ := bx_cells B8.out
        obtain ⟨⟨r0, r1, r2⟩, z0, z1, z2⟩ := bx_cells R8.out
        obtain ⟨y0, g0⟩ := bx_set0 R8.out ((xn : Int))
        obtain ⟨y1, g1⟩ := bx_set1 y0 (h)
        obtain ⟨y2, g2⟩ := bx_set2 y1 (v)
        have CF := Lib.hid ((C8.out.grown (grown_trans (grown_trans g0 g1) g2) (fun k hk => by injection hk with hk; omega)).le (K' := K + 30) (by omega))
        have GF := Lib.hid (grown_row G8.out (grown_trans (grown_trans g0 g1) g2) (fun k hk => by injection hk with hk; omega))
        obtain ⟨⟨v0, v1, v2⟩, -⟩ := bx_cells y2
        clear y0 y1 y2 g0 g1 g2
        go_wp2
        exact bodyPost_ret (v := .agg #[.int .i64 ((xn : Int)), .string (h), .string (v)]) (by simp [results, Tryz.results18, go_sem, v0, v1, v2]) rfl ⟨⟨⟨(xn : Int), h, v⟩, rfl, ⟨(show (h : ByteArray).size ≤ 60 from Nat.le_trans Xh.out (by omega)), (show (v : ByteArray).size ≤ 60 from Nat.le_trans Xv.out (by omega))⟩⟩, CF.out, GF.out⟩
    · clear S4
      go_wp2_with fail
      refine (pick_any g (K + 14) 40 _ (C4.out.le (by omega)) (by omega) (by omega) (by omega)).mono ?_
      rintro e w8 ⟨⟨s, rfl, s_0, s_1⟩, hc, hg⟩
      have C8 := Lib.hid hc
      have G8 := Lib.hid (grown_trans G4.out hg)
      have R8 := Lib.hid (R4.out.cur hg hgw)
      have B8 := Lib.hid (B4.out.cur hg hgw)
      clear hc hg C4 G4 R4 B4
      by_cases hs0 : s = 0
      · subst hs0
        have Cq := Lib.hid (C8.out.below (below_alloc (.cells #[.int .i64 (-1), .int .i64 12] 3)))
        have Gq := Lib.hid (grown_below G8.out (below_alloc (.cells #[.int .i64 (-1), .int .i64 12] 3)))
        have Rq := Lib.hid (R8.out.below (below_alloc (.cells #[.int .i64 (-1), .int .i64 12] 3)))
        have Bq := Lib.hid (B8.out.below (below_alloc (.cells #[.int .i64 (-1), .int .i64 12] 3)))
        go_wp2_with fail
        have Aq := Lib.hid (rd_lit (w := w8.alloc (.cells #[.int .i64 (-1), .int .i64 12] 3)) (k := w8.heap.size) (n := 2) (l := ([(-1), 12] : List Int)) (enc := inV) (heap_new (by first | rfl | simp)) inV_len rfl (by simp [maxLen]) rfl)
        have hgs : g < w8.heap.size := by first | omega | (have := C8.out.lt; simpa using this)
        refine (among_any g (K + 16) _ 2 2 _ _ (Cq.out.le (by omega)) (by omega) Aq.out (by omega) (by omega) (fun a ha => by injection ha with ha; subst ha; first | omega | (simp; done) | (simp; omega) | (simp at hgs ⊢; omega))).mono ?_
        rintro e w9 ⟨⟨t, rfl, hx⟩, hc, hg⟩
        have Xt := Lib.hid (mem_bd (lo := -1) (hi := 12) hx (by decide))
        have C9 := Lib.hid hc
        have G9 := Lib.hid (grown_trans Gq.out hg)
        have R9 := Lib.hid (Rq.out.cur hg hgw)
        have B9 := Lib.hid (Bq.out.cur hg hgw)
        clear hx hc hg hgs Cq Gq Aq C8 G8 Rq R8 Bq B8
        obtain ⟨⟨q09, q19, q29⟩, k09, k19, k29⟩ := bx_cells B9.out
        obtain ⟨bx0, gx0⟩ := bx_set0 B9.out (t)
        have BA := Lib.hid bx0
        have CA := Lib.hid (C9.out.grown gx0 (fun k hk => by injection hk with hk; omega))
        have GA := Lib.hid (grown_row G9.out gx0 (fun k hk => by injection hk with hk; omega))
        have RA := Lib.hid (R9.out.grown gx0 (.inr (by simp [blockOf]; omega)))
        clear bx0 gx0 C9 G9 R9 B9
        obtain ⟨⟨q0A, q1A, q2A⟩, k0A, k1A, k2A⟩ := bx_cells BA.out
        obtain ⟨⟨r0, r1, r2⟩, z0, z1, z2⟩ := bx_cells RA.out
        obtain ⟨y0, g0⟩ := bx_set0 RA.out (t)
        obtain ⟨y1, g1⟩ := bx_set1 y0 (h)
        obtain ⟨y2, g2⟩ := bx_set2 y1 (v)
        have CF := Lib.hid ((CA.out.grown (grown_trans (grown_trans g0 g1) g2) (fun k hk => by injection hk with hk; omega)).le (K' := K + 30) (by omega))
        have GF := Lib.hid (grown_row GA.out (grown_trans (grown_trans g0 g1) g2) (fun k hk => by injection hk with hk; omega))
        obtain ⟨⟨v0, v1, v2⟩, -⟩ := bx_cells y2
        clear y0 y1 y2 g0 g1 g2
        go_wp2
        exact bodyPost_ret (v := .agg #[.int .i64 (t), .string (h), .string (v)]) (by simp [results, Tryz.results18, go_sem, v0, v1, v2]) rfl ⟨⟨⟨t, h, v⟩, rfl, ⟨(show (h : ByteArray).size ≤ 60 from Nat.le_trans Xh.out (by omega)), (show (v : ByteArray).size ≤ 60 from Nat.le_trans Xv.out (by omega))⟩⟩, CF.out, GF.out⟩
      have es0 : (s == 0) = false := by simp; omega
      by_cases hs1 : s = 1
      · subst hs1
        obtain ⟨⟨q08, q18, q28⟩, k08, k18, k28⟩ := bx_cells B8.out
        have Cq := Lib.hid (C8.out.below (below_alloc (.cells #[.string ⟨#[]⟩, .string v, .string ⟨#[48, 49, 50, 51, 52, 53, 54, 55, 56, 57, 48, 49, 50, 51, 52, 53, 54, 55, 56, 57, 48]⟩] 9)))
        have Gq := Lib.hid (grown_below G8.out (below_alloc (.cells #[.string ⟨#[]⟩, .string v, .string ⟨#[48, 49, 50, 51, 52, 53, 54, 55, 56, 57, 48, 49, 50, 51, 52, 53, 54, 55, 56, 57, 48]⟩] 9)))
        have Rq := Lib.hid (R8.out.below (below_alloc (.cells #[.string ⟨#[]⟩, .string v, .string ⟨#[48, 49, 50, 51, 52, 53, 54, 55, 56, 57, 48, 49, 50, 51, 52, 53, 54, 55, 56, 57, 48]⟩] 9)))
        have Bq := Lib.hid (B8.out.below (below_alloc (.cells #[.string ⟨#[]⟩, .string v, .string ⟨#[48, 49, 50, 51, 52, 53, 54, 55, 56, 57, 48, 49, 50, 51, 52, 53, 54, 55, 56, 57, 48]⟩] 9)))
        go_wp2_with fail
        have Aq := Lib.hid (rd_lit (w := w8.alloc (.cells #[.string ⟨#[]⟩, .string v, .string ⟨#[48, 49, 50, 51, 52, 53, 54, 55, 56, 57, 48, 49, 50, 51, 52, 53, 54, 55, 56, 57, 48]⟩] 9)) (k := w8.heap.size) (n := 3) (l := ([⟨#[]⟩, v, ⟨#[48, 49, 50, 51, 52, 53, 54, 55, 56, 57, 48, 49, 50, 51, 52, 53, 54, 55, 56, 57, 48]⟩] : List ByteArray)) (enc := stV) (heap_new (by first | rfl | simp)) stV_len rfl (by simp [maxLen]) rfl)
        have hgs : g < w8.heap.size := by first | omega | (have := C8.out.lt; simpa using this)
        refine (of_any g (K + 16) _ 3 3 _ _ (Cq.out.le (by omega)) (by omega) Aq.out (by omega) (by omega) (fun a ha => by injection ha with ha; subst ha; first | omega | (simp; done) | (simp; omega) | (simp at hgs ⊢; omega))).mono ?_
        rintro e w9 ⟨⟨t, rfl, hx⟩, hc, hg⟩
        have Xt := Lib.hid (of_three (a := ⟨#[]⟩) (b := v) (c := ⟨#[48, 49, 50, 51, 52, 53, 54, 55, 56, 57, 48, 49, 50, 51, 52, 53, 54, 55, 56, 57, 48]⟩) hx (by decide) Xv.out (by decide))
        have C9 := Lib.hid hc
        have G9 := Lib.hid (grown_trans Gq.out hg)
        have R9 := Lib.hid (Rq.out.cur hg hgw)
        have B9 := Lib.hid (Bq.out.cur hg hgw)
        clear hx hc hg hgs Cq Gq Aq C8 G8 Rq R8 Bq B8
        obtain ⟨⟨q09, q19, q29⟩, k09, k19, k29⟩ := bx_cells B9.out
        obtain ⟨bx0, gx0⟩ := bx_set1 B9.out (t)
        have BA := Lib.hid bx0
        have CA := Lib.hid (C9.out.grown gx0 (fun k hk => by injection hk with hk; omega))
        have GA := Lib.hid (grown_row G9.out gx0 (fun k hk => by injection hk with hk; omega))
        have RA := Lib.hid (R9.out.grown gx0 (.inr (by simp [blockOf]; omega)))
        clear bx0 gx0 C9 G9 R9 B9
        obtain ⟨⟨q0A, q1A, q2A⟩, k0A, k1A, k2A⟩ := bx_cells BA.out
        obtain ⟨⟨r0, r1, r2⟩, z0, z1, z2⟩ := bx_cells RA.out
        obtain ⟨y0, g0⟩ := bx_set0 RA.out ((xn : Int))
        obtain ⟨y1, g1⟩ := bx_set1 y0 (t)
        obtain ⟨y2, g2⟩ := bx_set2 y1 (v)
        have CF := Lib.hid ((CA.out.grown (grown_trans (grown_trans g0 g1) g2) (fun k hk => by injection hk with hk; omega)).le (K' := K + 30) (by omega))
        have GF := Lib.hid (grown_row GA.out (grown_trans (grown_trans g0 g1) g2) (fun k hk => by injection hk with hk; omega))
        obtain ⟨⟨v0, v1, v2⟩, -⟩ := bx_cells y2
        clear y0 y1 y2 g0 g1 g2
        go_wp2
        exact bodyPost_ret (v := .agg #[.int .i64 ((xn : Int)), .string (t), .string (v)]) (by simp [results, Tryz.results18, go_sem, v0, v1, v2]) rfl ⟨⟨⟨(xn : Int), t, v⟩, rfl, ⟨(show (t : ByteArray).size ≤ 60 from Nat.le_trans Xt.out (by omega)), (show (v : ByteArray).size ≤ 60 from Nat.le_trans Xv.out (by omega))⟩⟩, CF.out, GF.out⟩
      have es1 : (s == 1) = false := by simp; omega
      by_cases hs2 : s = 2
      · subst hs2
        have Cq := Lib.hid (C8.out.below (below_alloc (.cells #[.string ⟨#[34]⟩, .string ⟨#[9]⟩, .string ⟨#[48, 49, 50, 51, 52, 53, 54, 55, 56, 57, 48, 49, 50, 51, 52, 53, 54, 55, 56, 57]⟩, .string ⟨#[48, 49, 50, 51, 52, 53, 54, 55, 56, 57, 48, 49, 50, 51, 52, 53, 54, 55, 56, 57, 48]⟩] 9)))
        have Gq := Lib.hid (grown_below G8.out (below_alloc (.cells #[.string ⟨#[34]⟩, .string ⟨#[9]⟩, .string ⟨#[48, 49, 50, 51, 52, 53, 54, 55, 56, 57, 48, 49, 50, 51, 52, 53, 54, 55, 56, 57]⟩, .string ⟨#[48, 49, 50, 51, 52, 53, 54, 55, 56, 57, 48, 49, 50, 51, 52, 53, 54, 55, 56, 57, 48]⟩] 9)))
        have Rq := Lib.hid (R8.out.below (below_alloc (.cells #[.string ⟨#[34]⟩, .string ⟨#[9]⟩, .string ⟨#[48, 49, 50, 51, 52, 53, 54, 55, 56, 57, 48, 49, 50, 51, 52, 53, 54, 55, 56, 57]⟩, .string ⟨#[48, 49, 50, 51, 52, 53, 54, 55, 56, 57, 48, 49, 50, 51, 52, 53, 54, 55, 56, 57, 48]⟩] 9)))
        have Bq := Lib.hid (B8.out.below (below_alloc (.cells #[.string ⟨#[34]⟩, .string ⟨#[9]⟩, .string ⟨#[48, 49, 50, 51, 52, 53, 54, 55, 56, 57, 48, 49, 50, 51, 52, 53, 54, 55, 56, 57]⟩, .string ⟨#[48, 49, 50, 51, 52, 53, 54, 55, 56, 57, 48, 49, 50, 51, 52, 53, 54, 55, 56, 57, 48]⟩] 9)))
        go_wp2_with fail
        have Aq := Lib.hid (rd_lit (w := w8.alloc (.cells #[.string ⟨#[34]⟩, .string ⟨#[9]⟩, .string ⟨#[48, 49, 50, 51, 52, 53, 54, 55, 56, 57, 48, 49, 50, 51, 52, 53, 54, 55, 56, 57]⟩, .string ⟨#[48, 49, 50, 51, 52, 53, 54, 55, 56, 57, 48, 49, 50, 51, 52, 53, 54, 55, 56, 57, 48]⟩] 9)) (k := w8.heap.size) (n := 4) (l := ([⟨#[34]⟩, ⟨#[9]⟩, ⟨#[48, 49, 50, 51, 52, 53, 54, 55, 56, 57, 48, 49, 50, 51, 52, 53, 54, 55, 56, 57]⟩, ⟨#[48, 49, 50, 51, 52, 53, 54, 55, 56, 57, 48, 49, 50, 51, 52, 53, 54, 55, 56, 57, 48]⟩] : List ByteArray)) (enc := stV) (heap_new (by first | rfl | simp)) stV_len rfl (by simp [maxLen]) rfl)
        have hgs : g < w8.heap.size := by first | omega | (have := C8.out.lt; simpa using this)
        refine (of_any g (K + 16) _ 4 4 _ _ (Cq.out.le (by omega)) (by omega) Aq.out (by omega) (by omega) (fun a ha => by injection ha with ha; subst ha; first | omega | (simp; done) | (simp; omega) | (simp at hgs ⊢; omega))).mono ?_
        rintro e w9 ⟨⟨t, rfl, hx⟩, hc, hg⟩
        have Xt := Lib.hid (of_sz (m := 24) hx (by decide))
        have C9 := Lib.hid hc
        have G9 := Lib.hid (grown_trans Gq.out hg)
        have R9 := Lib.hid (Rq.out.cur hg hgw)
        have B9 := Lib.hid (Bq.out.cur hg hgw)
        clear hx hc hg hgs Cq Gq Aq C8 G8 Rq R8 Bq B8
        obtain ⟨⟨q09, q19, q29⟩, k09, k19, k29⟩ := bx_cells B9.out
        obtain ⟨bx0, gx0⟩ := bx_set2 B9.out (t)
        have BA := Lib.hid bx0
        have CA := Lib.hid (C9.out.grown gx0 (fun k hk => by injection hk with hk; omega))
        have GA := Lib.hid (grown_row G9.out gx0 (fun k hk => by injection hk with hk; omega))
        have RA := Lib.hid (R9.out.grown gx0 (.inr (by simp [blockOf]; omega)))
        clear bx0 gx0 C9 G9 R9 B9
        obtain ⟨⟨q0A, q1A, q2A⟩, k0A, k1A, k2A⟩ := bx_cells BA.out
        obtain ⟨⟨r0, r1, r2⟩, z0, z1, z2⟩ := bx_cells RA.out
        obtain ⟨y0, g0⟩ := bx_set0 RA.out ((xn : Int))
        obtain ⟨y1, g1⟩ := bx_set1 y0 (h)
        obtain ⟨y2, g2⟩ := bx_set2 y1 (t)
        have CF := Lib.hid ((CA.out.grown (grown_trans (grown_trans g0 g1) g2) (fun k hk => by injection hk with hk; omega)).le (K' := K + 30) (by omega))
        have GF := Lib.hid (grown_row GA.out (grown_trans (grown_trans g0 g1) g2) (fun k hk => by injection hk with hk; omega))
        obtain ⟨⟨v0, v1, v2⟩, -⟩ := bx_cells y2
        clear y0 y1 y2 g0 g1 g2
        go_wp2
        exact bodyPost_ret (v := .agg #[.int .i64 ((xn : Int)), .string (h), .string (t)]) (by simp [results, Tryz.results18, go_sem, v0, v1, v2]) rfl ⟨⟨⟨(xn : Int), h, t⟩, rfl, ⟨(show (h : ByteArray).size ≤ 60 from Nat.le_trans Xh.out (by omega)), (show (t : ByteArray).size ≤ 60 from Nat.le_trans Xt.out (by omega))⟩⟩, CF.out, GF.out⟩
      have es2 : (s == 2) = false := by simp; omega
      obtain ⟨⟨q08, q18, q28⟩, k08, k18, k28⟩ := bx_cells B8.out
      obtain ⟨⟨r0, r1, r2⟩, z0, z1, z2⟩ := bx_cells R8.out
      obtain ⟨y0, g0⟩ := bx_set0 R8.out ((xn : Int))
      obtain ⟨y1, g1⟩ := bx_set1 y0 (h)
      obtain ⟨y2, g2⟩ := bx_set2 y1 (v)
      have CF := Lib.hid ((C8.out.grown (grown_trans (grown_trans g0 g1) g2) (fun k hk => by injection hk with hk; omega)).le (K' := K + 30) (by omega))
      have GF := Lib.hid (grown_row G8.out (grown_trans (grown_trans g0 g1) g2) (fun k hk => by injection hk with hk; omega))
      obtain ⟨⟨v0, v1, v2⟩, -⟩ := bx_cells y2
      clear y0 y1 y2 g0 g1 g2
      go_wp2
      exact bodyPost_ret (v := .agg #[.int .i64 ((xn : Int)), .string (h), .string (v)]) (by simp [results, Tryz.results18, go_sem, v0, v1, v2]) rfl ⟨⟨⟨(xn : Int), h, v⟩, rfl, ⟨(show (h : ByteArray).size ≤ 60 from Nat.le_trans Xh.out (by omega)), (show (v : ByteArray).size ≤ 60 from Nat.le_trans Xv.out (by omega))⟩⟩, CF.out, GF.out⟩
  · clear S4
    obtain ⟨⟨q04, q14, q24⟩, k04, k14, k24⟩ := bx_cells B4.out
    go_wp2_with fail
    refine (pick_any g (K + 14) 40 _ (C4.out.le (by omega)) (by omega) (by omega) (by omega)).mono ?_
    rintro e w8 ⟨⟨s, rfl, s_0, s_1⟩, hc, hg⟩
    have C8 := Lib.hid hc
    have G8 := Lib.hid (grown_trans G4.out hg)
    have R8 := Lib.hid (R4.out.cur hg hgw)
    have B8 := Lib.hid (B4.out.cur hg hgw)
    clear hc hg C4 G4 R4 B4
    by_cases hs0 : s = 0
    · subst hs0
      have Cq := Lib.hid (C8.out.below (below_alloc (.cells #[.int .i64 (-1), .int .i64 12] 3)))
      have Gq := Lib.hid (grown_below G8.out (below_alloc (.cells #[.int .i64 (-1), .int .i64 12] 3)))
      have Rq := Lib.hid (R8.out.below (below_alloc (.cells #[.int .i64 (-1), .int .i64 12] 3)))
      have Bq := Lib.hid (B8.out.below (below_alloc (.cells #[.int .i64 (-1), .int .i64 12] 3)))
      go_wp2_with fail
      have Aq := Lib.hid (rd_lit (w := w8.alloc (.cells #[.int .i64 (-1), .int .i64 12] 3)) (k := w8.heap.size) (n := 2) (l := ([(-1), 12] : List Int)) (enc := inV) (heap_new (by first | rfl | simp)) inV_len rfl (by simp [maxLen]) rfl)
      have hgs : g < w8.heap.size := by first | omega | (have := C8.out.lt; simpa using this)
      refine (among_any g (K + 16) _ 2 2 _ _ (Cq.out.le (by omega)) (by omega) Aq.out (by omega) (by omega) (fun a ha => by injection ha with ha; subst ha; first | omega | (simp; done) | (simp; omega) | (simp at hgs ⊢; omega))).mono ?_
      rintro e w9 ⟨⟨t, rfl, hx⟩, hc, hg⟩
      have Xt := Lib.hid (mem_bd (lo := -1) (hi := 12) hx (by decide))
      have C9 := Lib.hid hc
      have G9 := Lib.hid (grown_trans Gq.out hg)
      have R9 := Lib.hid (Rq.out.cur hg hgw)
      have B9 := Lib.hid (Bq.out.cur hg hgw)
      clear hx hc hg hgs Cq Gq Aq C8 G8 Rq R8 Bq B8
      obtain ⟨⟨q09, q19, q29⟩, k09, k19, k29⟩ := bx_cells B9.out
      obtain ⟨bx0, gx0⟩ := bx_set0 B9.out (t)
      have BA := Lib.hid bx0
      have CA := Lib.hid (C9.out.grown gx0 (fun k hk => by injection hk with hk; omega))
      have GA := Lib.hid (grown_row G9.out gx0 (fun k hk => by injection hk with hk; omega))
      have RA := Lib.hid (R9.out.grown gx0 (.inr (by simp [blockOf]; omega)))
      clear bx0 gx0 C9 G9 R9 B9
      obtain ⟨⟨q0A, q1A, q2A⟩, k0A, k1A, k2A⟩ := bx_cells BA.out
      obtain ⟨⟨r0, r1, r2⟩, z0, z1, z2⟩ := bx_cells RA.out
      obtain ⟨y0, g0⟩ := bx_set0 RA.out (t)
      obtain ⟨y1, g1⟩ := bx_set1 y0 (h)
      obtain ⟨y2, g2⟩ := bx_set2 y1 (v)
      have CF := Lib.hid ((CA.out.grown (grown_trans (grown_trans g0 g1) g2) (fun k hk => by injection hk with hk; omega)).le (K' := K + 30) (by omega))
      have GF := Lib.hid (grown_row GA.out (grown_trans (grown_trans g0 g1) g2) (fun k hk => by injection hk with hk; omega))
      obtain ⟨⟨v0, v1, v2⟩, -⟩ := bx_cells y2
      clear y0 y1 y2 g0 g1 g2
      go_wp2
      exact bodyPost_ret (v := .agg #[.int .i64 (t), .string (h), .string (v)]) (by simp [results, Tryz.results18, go_sem, v0, v1, v2]) rfl ⟨⟨⟨t, h, v⟩, rfl, ⟨(show (h : ByteArray).size ≤ 60 from Nat.le_trans Xh.out (by omega)), (show (v : ByteArray).size ≤ 60 from Nat.le_trans Xv.out (by omega))⟩⟩, CF.out, GF.out⟩
    have es0 : (s == 0) = false := by simp; omega
    by_cases hs1 : s = 1
    · subst hs1
      obtain ⟨⟨q08, q18, q28⟩, k08, k18, k28⟩ := bx_cells B8.out
      have Cq := Lib.hid (C8.out.below (below_alloc (.cells #[.string ⟨#[]⟩, .string v, .string ⟨#[48, 49, 50, 51, 52, 53, 54, 55, 56, 57, 48, 49, 50, 51, 52, 53, 54, 55, 56, 57, 48]⟩] 9)))
      have Gq := Lib.hid (grown_below G8.out (below_alloc (.cells #[.string ⟨#[]⟩, .string v, .string ⟨#[48, 49, 50, 51, 52, 53, 54, 55, 56, 57, 48, 49, 50, 51, 52, 53, 54, 55, 56, 57, 48]⟩] 9)))
      have Rq := Lib.hid (R8.out.below (below_alloc (.cells #[.string ⟨#[]⟩, .string v, .string ⟨#[48, 49, 50, 51, 52, 53, 54, 55, 56, 57, 48, 49, 50, 51, 52, 53, 54, 55, 56, 57, 48]⟩] 9)))
      have Bq := Lib.hid (B8.out.below (below_alloc (.cells #[.string ⟨#[]⟩, .string v, .string ⟨#[48, 49, 50, 51, 52, 53, 54, 55, 56, 57, 48, 49, 50, 51, 52, 53, 54, 55, 56, 57, 48]⟩] 9)))
      go_wp2_with fail
      have Aq := Lib.hid (rd_lit (w := w8.alloc (.cells #[.string ⟨#[]⟩, .string v, .string ⟨#[48, 49, 50, 51, 52, 53, 54, 55, 56, 57, 48, 49, 50, 51, 52, 53, 54, 55, 56, 57, 48]⟩] 9)) (k := w8.heap.size) (n := 3) (l := ([⟨#[]⟩, v, ⟨#[48, 49, 50, 51, 52, 53, 54, 55, 56, 57, 48, 49, 50, 51, 52, 53, 54, 55, 56, 57, 48]⟩] : List ByteArray)) (enc := stV) (heap_new (by first | rfl | simp)) stV_len rfl (by simp [maxLen]) rfl)
      have hgs : g < w8.heap.size := by first | omega | (have := C8.out.lt; simpa using this)
      refine (of_any g (K + 16) _ 3 3 _ _ (Cq.out.le (by omega)) (by omega) Aq.out (by omega) (by omega) (fun a ha => by injection ha with ha; subst ha; first | omega | (simp; done) | (simp; omega) | (simp at hgs ⊢; omega))).mono ?_
      rintro e w9 ⟨⟨t, rfl, hx⟩, hc, hg⟩
      have Xt := Lib.hid (of_three (a := ⟨#[]⟩) (b := v) (c := ⟨#[48, 49, 50, 51, 52, 53, 54, 55, 56, 57, 48, 49, 50, 51, 52, 53, 54, 55, 56, 57, 48]⟩) hx (by decide) Xv.out (by decide))
      have C9 := Lib.hid hc
      have G9 := Lib.hid (grown_trans Gq.out hg)
      have R9 := Lib.hid (Rq.out.cur hg hgw)
      have B9 := Lib.hid (Bq.out.cur hg hgw)
      clear hx hc hg hgs Cq Gq Aq C8 G8 Rq R8 Bq B8
      obtain ⟨⟨q09, q19, q29⟩, k09, k19, k29⟩ := bx_cells B9.out
      obtain ⟨bx0, gx0⟩ := bx_set1 B9.out (t)
      have BA := Lib.hid bx0
      have CA := Lib.hid (C9.out.grown gx0 (fun k hk => by injection hk with hk; omega))
      have GA := Lib.hid (grown_row G9.out gx0 (fun k hk => by injection hk with hk; omega))
      have RA := Lib.hid (R9.out.grown gx0 (.inr (by simp [blockOf]; omega)))
      clear bx0 gx0 C9 G9 R9 B9
      obtain ⟨⟨q0A, q1A, q2A⟩, k0A, k1A, k2A⟩ := bx_cells BA.out
      obtain ⟨⟨r0, r1, r2⟩, z0, z1, z2⟩ := bx_cells RA.out
      obtain ⟨y0, g0⟩ := bx_set0 RA.out (x)
      obtain ⟨y1, g1⟩ := bx_set1 y0 (t)
      obtain ⟨y2, g2⟩ := bx_set2 y1 (v)
      have CF := Lib.hid ((CA.out.grown (grown_trans (grown_trans g0 g1) g2) (fun k hk => by injection hk with hk; omega)).le (K' := K + 30) (by omega))
      have GF := Lib.hid (grown_row GA.out (grown_trans (grown_trans g0 g1) g2) (fun k hk => by injection hk with hk; omega))
      obtain ⟨⟨v0, v1, v2⟩, -⟩ := bx_cells y2
      clear y0 y1 y2 g0 g1 g2
      go_wp2
      exact bodyPost_ret (v := .agg #[.int .i64 (x), .string (t), .string (v)]) (by simp [results, Tryz.results18, go_sem, v0, v1, v2]) rfl ⟨⟨⟨x, t, v⟩, rfl, ⟨(show (t : ByteArray).size ≤ 60 from Nat.le_trans Xt.out (by omega)), (show (v : ByteArray).size ≤ 60 from Nat.le_trans Xv.out (by omega))⟩⟩, CF.out, GF.out⟩
    have es1 : (s == 1) = false := by simp; omega
    by_cases hs2 : s = 2
    · subst hs2
      have Cq := Lib.hid (C8.out.below (below_alloc (.cells #[.string ⟨#[34]⟩, .string ⟨#[9]⟩, .string ⟨#[48, 49, 50, 51, 52, 53, 54, 55, 56, 57, 48, 49, 50, 51, 52, 53, 54, 55, 56, 57]⟩, .string ⟨#[48, 49, 50, 51, 52, 53, 54, 55, 56, 57, 48, 49, 50, 51, 52, 53, 54, 55, 56, 57, 48]⟩] 9)))
      have Gq := Lib.hid (grown_below G8.out (below_alloc (.cells #[.string ⟨#[34]⟩, .string ⟨#[9]⟩, .string ⟨#[48, 49, 50, 51, 52, 53, 54, 55, 56, 57, 48, 49, 50, 51, 52, 53, 54, 55, 56, 57]⟩, .string ⟨#[48, 49, 50, 51, 52, 53, 54, 55, 56, 57, 48, 49, 50, 51, 52, 53, 54, 55, 56, 57, 48]⟩] 9)))
      have Rq := Lib.hid (R8.out.below (below_alloc (.cells #[.string ⟨#[34]⟩, .string ⟨#[9]⟩, .string ⟨#[48, 49, 50, 51, 52, 53, 54, 55, 56, 57, 48, 49, 50, 51, 52, 53, 54, 55, 56, 57]⟩, .string ⟨#[48, 49, 50, 51, 52, 53, 54, 55, 56, 57, 48, 49, 50, 51, 52, 53, 54, 55, 56, 57, 48]⟩] 9)))
      have Bq := Lib.hid (B8.out.below (below_alloc (.cells #[.string ⟨#[34]⟩, .string ⟨#[9]⟩, .string ⟨#[48, 49, 50, 51, 52, 53, 54, 55, 56, 57, 48, 49, 50, 51, 52, 53, 54, 55, 56, 57]⟩, .string ⟨#[48, 49, 50, 51, 52, 53, 54, 55, 56, 57, 48, 49, 50, 51, 52, 53, 54, 55, 56, 57, 48]⟩] 9)))
      go_wp2_with fail
      have Aq := Lib.hid (rd_lit (w := w8.alloc (.cells #[.string ⟨#[34]⟩, .string ⟨#[9]⟩, .string ⟨#[48, 49, 50, 51, 52, 53, 54, 55, 56, 57, 48, 49, 50, 51, 52, 53, 54, 55, 56, 57]⟩, .string ⟨#[48, 49, 50, 51, 52, 53, 54, 55, 56, 57, 48, 49, 50, 51, 52, 53, 54, 55, 56, 57, 48]⟩] 9)) (k := w8.heap.size) (n := 4) (l := ([⟨#[34]⟩, ⟨#[9]⟩, ⟨#[48, 49, 50, 51, 52, 53, 54, 55, 56, 57, 48, 49, 50, 51, 52, 53, 54, 55, 56, 57]⟩, ⟨#[48, 49, 50, 51, 52, 53, 54, 55, 56, 57, 48, 49, 50, 51, 52, 53, 54, 55, 56, 57, 48]⟩] : List ByteArray)) (enc := stV) (heap_new (by first | rfl | simp)) stV_len rfl (by simp [maxLen]) rfl)
      have hgs : g < w8.heap.size := by first | omega | (have := C8.out.lt; simpa using this)
      refine (of_any g (K + 16) _ 4 4 _ _ (Cq.out.le (by omega)) (by omega) Aq.out (by omega) (by omega) (fun a ha => by injection ha with ha; subst ha; first | omega | (simp; done) | (simp; omega) | (simp at hgs ⊢; omega))).mono ?_
      rintro e w9 ⟨⟨t, rfl, hx⟩, hc, hg⟩
      have Xt := Lib.hid (of_sz (m := 24) hx (by decide))
      have C9 := Lib.hid hc
      have G9 := Lib.hid (grown_trans Gq.out hg)
      have R9 := Lib.hid (Rq.out.cur hg hgw)
      have B9 := Lib.hid (Bq.out.cur hg hgw)
      clear hx hc hg hgs Cq Gq Aq C8 G8 Rq R8 Bq B8
      obtain ⟨⟨q09, q19, q29⟩, k09, k19, k29⟩ := bx_cells B9.out
      obtain ⟨bx0, gx0⟩ := bx_set2 B9.out (t)
      have BA := Lib.hid bx0
      have CA := Lib.hid (C9.out.grown gx0 (fun k hk => by injection hk with hk; omega))
      have GA := Lib.hid (grown_row G9.out gx0 (fun k hk => by injection hk with hk; omega))
      have RA := Lib.hid (R9.out.grown gx0 (.inr (by simp [blockOf]; omega)))
      clear bx0 gx0 C9 G9 R9 B9
      obtain ⟨⟨q0A, q1A, q2A⟩, k0A, k1A, k2A⟩ := bx_cells BA.out
      obtain ⟨⟨r0, r1, r2⟩, z0, z1, z2⟩ := bx_cells RA.out
      obtain ⟨y0, g0⟩ := bx_set0 RA.out (x)
      obtain ⟨y1, g1⟩ := bx_set1 y0 (h)
      obtain ⟨y2, g2⟩ := bx_set2 y1 (t)
      have CF := Lib.hid ((CA.out.grown (grown_trans (grown_trans g0 g1) g2) (fun k hk => by injection hk with hk; omega)).le (K' := K + 30) (by omega))
      have GF := Lib.hid (grown_row GA.out (grown_trans (grown_trans g0 g1) g2) (fun k hk => by injection hk with hk; omega))
      obtain ⟨⟨v0, v1, v2⟩, -⟩ := bx_cells y2
      clear y0 y1 y2 g0 g1 g2
      go_wp2
      exact bodyPost_ret (v := .agg #[.int .i64 (x), .string (h), .string (t)]) (by simp [results, Tryz.results18, go_sem, v0, v1, v2]) rfl ⟨⟨⟨x, h, t⟩, rfl, ⟨(show (h : ByteArray).size ≤ 60 from Nat.le_trans Xh.out (by omega)), (show (t : ByteArray).size ≤ 60 from Nat.le_trans Xt.out (by omega))⟩⟩, CF.out, GF.out⟩
    have es2 : (s == 2) = false := by simp; omega
    obtain ⟨⟨q08, q18, q28⟩, k08, k18, k28⟩ := bx_cells B8.out
    obtain ⟨⟨r0, r1, r2⟩, z0, z1, z2⟩ := bx_cells R8.out
    obtain ⟨y0, g0⟩ := bx_set0 R8.out (x)
    obtain ⟨y1, g1⟩ := bx_set1 y0 (h)
    obtain ⟨y2, g2⟩ := bx_set2 y1 (v)
    have CF := Lib.hid ((C8.out.grown (grown_trans (grown_trans g0 g1) g2) (fun k hk => by injection hk with hk; omega)).le (K' := K + 30) (by omega))
    have GF := Lib.hid (grown_row G8.out (grown_trans (grown_trans g0 g1) g2) (fun k hk => by injection hk with hk; omega))
    obtain ⟨⟨v0, v1, v2⟩, -⟩ := bx_cells y2
    clear y0 y1 y2 g0 g1 g2
    go_wp2
    exact bodyPost_ret (v := .agg #[.int .i64 (x), .string (h), .string (v)]) (by simp [results, Tryz.results18, go_sem, v0, v1, v2]) rfl ⟨⟨⟨x, h, v⟩, rfl, ⟨(show (h : ByteArray).size ≤ 60 from Nat.le_trans Xh.out (by omega)), (show (v : ByteArray).size ≤ 60 from Nat.le_trans Xv.out (by omega))⟩⟩, CF.out, GF.out⟩


end Go.Proofs.YtmahfkimeclcbaaGreatDoor
