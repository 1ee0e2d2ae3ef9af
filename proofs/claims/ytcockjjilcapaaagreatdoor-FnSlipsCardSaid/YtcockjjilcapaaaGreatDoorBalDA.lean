/-
  YtcockjjilcapaaaGreatDoorBalDA: ballots: the draw of a ballot. (Printed by wip/gen/baldr.py.)
-/
import Derived.Test.YtcockjjilcapaaaGreatDoorBalA
import Derived.Test.YtcockjjilcapaaaGreatDoorOf
namespace Go.Proofs.YtcockjjilcapaaaGreatDoor
open Go Go.RowKit Go.Sort
set_option linter.unusedVariables false

/-- A new block as a row of one element. -/
theorem own_one {α : Type} {enc : α → List Value} {sz : Nat} (w : World) (cs : Array Value) (e : TypeId) (y : α) (hcs : cs.toList = enc y) (he : (enc y).length = sz) : Own enc sz (w.alloc (.cells cs e)) w.heap.size e (some ⟨w.heap.size, 0, none⟩) 1 1 [y] :=
  ⟨rfl, by
    have := World.ownsRow_lit (base := w.heap.size) (e := e) (size := sz) w cs 1 (Nat.le_refl _) (by simp [maxLen]) (by rw [Nat.one_mul, ← he, ← hcs, Array.length_toList])
    rw [hcs] at this
    simpa using this⟩
theorem mem_bd {x lo hi : Int} {l : List Int} (h : x ∈ l) (hb : ∀ y ∈ l, lo ≤ y ∧ y ≤ hi) : lo ≤ x ∧ x ≤ hi := hb x h
theorem bx_cells {w : World} {base b : Nat} {e : TypeId} {x0 : Int} {x1 : ByteArray} (h : Own baV 2 w base e (some ⟨b, 0, none⟩) 1 1 [⟨x0, x1⟩]) :
    (w.cell? ⟨b, 0, none⟩ = some (.int .i64 x0) ∧ w.cell? ⟨b, 1, none⟩ = some (.string x1)) ∧ w.frozen? ⟨b, 0, none⟩ = false ∧ w.frozen? ⟨b, 1, none⟩ = false :=
  ⟨⟨by simpa using h.cell baV_len (i := 0) (j := 0) rfl rfl, by simpa using h.cell baV_len (i := 0) (j := 1) rfl rfl⟩, h.frozen 0, h.frozen 1⟩
theorem bx_set0 {w : World} {base b : Nat} {e : TypeId} {x0 : Int} {x1 : ByteArray} (h : Own baV 2 w base e (some ⟨b, 0, none⟩) 1 1 [⟨x0, x1⟩]) (z : Int) : Own baV 2 (w.setCell ⟨b, 0, none⟩ (.int .i64 z)) base e (some ⟨b, 0, none⟩) 1 1 [⟨z, x1⟩] ∧ w.grownBy (w.setCell ⟨b, 0, none⟩ (.int .i64 z)) (some b) := by
  simpa using h.store baV_len (i := 0) (j := 0) rfl (by omega) (⟨z, x1⟩ : BA) (.int .i64 z) rfl
theorem bx_set1 {w : World} {base b : Nat} {e : TypeId} {x0 : Int} {x1 : ByteArray} (h : Own baV 2 w base e (some ⟨b, 0, none⟩) 1 1 [⟨x0, x1⟩]) (z : ByteArray) : Own baV 2 (w.setCell ⟨b, 1, none⟩ (.string z)) base e (some ⟨b, 0, none⟩) 1 1 [⟨x0, z⟩] ∧ w.grownBy (w.setCell ⟨b, 1, none⟩ (.string z)) (some b) := by
  simpa using h.store baV_len (i := 0) (j := 1) rfl (by omega) (⟨x0, z⟩ : BA) (.string z) rfl
def BaS (x : BA) : Prop := x.ch.size ≤ 24
theorem bas_sz {x : BA} (h : BaS x) : BaSz x := Nat.le_trans h (by simp [maxLen])


set_option maxRecDepth 100000 in
set_option maxHeartbeats 8000000 in
theorem ballot_any (g K : Nat) (w : World) (h : Cur w g K) (hK : K ≤ 100000) : Calls Tryz.prog 15 #[.pointer (some ⟨g, 0, none⟩)] w fun e w' => (∃ x : BA, e = .returned (.agg #[.int .i64 x.code, .string x.ch]) ∧ BaS x) ∧ Cur w' g (K + 12) ∧ w.grownBy w' (some g) := by
  have hgw := h.lt
  have R0 := Lib.hid (own_one (enc := baV) w #[.int .i64 0, .string ⟨#[]⟩] 25 (⟨0, ⟨#[]⟩⟩ : BA) rfl rfl)
  have C0 := Lib.hid (h.below (below_alloc (.cells #[.int .i64 0, .string ⟨#[]⟩] 25)))
  have G0 := Lib.hid (grown_of_below (below_alloc (w := w) (.cells #[.int .i64 0, .string ⟨#[]⟩] 25)) (some g))
  clear h
  go_enter Tryz.func15, Tryz.ntmps15
  have Cq := Lib.hid (C0.out.below (below_alloc (.cells #[.int .i64 1, .int .i64 2, .int .i64 3, .int .i64 17, .int .i64 100, .int .i64 2001, .int .i64 9999] 3)))
  have Gq := Lib.hid (grown_below G0.out (below_alloc (.cells #[.int .i64 1, .int .i64 2, .int .i64 3, .int .i64 17, .int .i64 100, .int .i64 2001, .int .i64 9999] 3)))
  have Rq := Lib.hid (R0.out.below (below_alloc (.cells #[.int .i64 1, .int .i64 2, .int .i64 3, .int .i64 17, .int .i64 100, .int .i64 2001, .int .i64 9999] 3)))
  go_wp2_with fail
  have Aq := Lib.hid (rd_lit (w := (w.alloc (.cells #[.int .i64 0, .string ⟨#[]⟩] 25)).alloc (.cells #[.int .i64 1, .int .i64 2, .int .i64 3, .int .i64 17, .int .i64 100, .int .i64 2001, .int .i64 9999] 3)) (k := (w.heap.size + 1)) (n := 7) (l := ([1, 2, 3, 17, 100, 2001, 9999] : List Int)) (enc := inV) (heap_new (by first | rfl | simp)) inV_len rfl (by simp [maxLen]) rfl)
  have hgs : g < (w.heap.size + 1) := by first | omega | (have := C0.out.lt; simpa using this)
  refine (among_any g K _ 7 7 _ _ (Cq.out.le (by omega)) (by omega) Aq.out (by omega) (by omega) (fun a ha => by injection ha with ha; subst ha; first | omega | (simp; done) | (simp; omega) | (simp at hgs ⊢; omega))).mono ?_
  rintro e w1 ⟨⟨x, rfl, hx⟩, hc, hg⟩
  have Xx := Lib.hid (mem_bd (lo := 1) (hi := 9999) hx (by decide))
  have C1 := Lib.hid hc
  have G1 := Lib.hid (grown_trans Gq.out hg)
  have R1 := Lib.hid (Rq.out.cur hg hgw)
  clear hx hc hg hgs Cq Gq Aq C0 G0 Rq R0
  have Cq := Lib.hid (C1.out.below (below_alloc (.cells #[.string ⟨#[]⟩, .string ⟨#[97]⟩, .string ⟨#[97]⟩, .string ⟨#[99, 97, 108, 108]⟩, .string ⟨#[109, 97, 105, 110]⟩, .string ⟨#[114, 101, 102, 101, 114]⟩] 9)))
  have Gq := Lib.hid (grown_below G1.out (below_alloc (.cells #[.string ⟨#[]⟩, .string ⟨#[97]⟩, .string ⟨#[97]⟩, .string ⟨#[99, 97, 108, 108]⟩, .string ⟨#[109, 97, 105, 110]⟩, .string ⟨#[114, 101, 102, 101, 114]⟩] 9)))
  have Rq := Lib.hid (R1.out.below (below_alloc (.cells #[.string ⟨#[]⟩, .string ⟨#[97]⟩, .string ⟨#[97]⟩, .string ⟨#[99, 97, 108, 108]⟩, .string ⟨#[109, 97, 105, 110]⟩, .string ⟨#[114, 101, 102, 101, 114]⟩] 9)))
  go_wp2_with fail
  have Aq := Lib.hid (rd_lit (w := w1.alloc (.cells #[.string ⟨#[]⟩, .string ⟨#[97]⟩, .string ⟨#[97]⟩, .string ⟨#[99, 97, 108, 108]⟩, .string ⟨#[109, 97, 105, 110]⟩, .string ⟨#[114, 101, 102, 101, 114]⟩] 9)) (k := w1.heap.size) (n := 6) (l := ([⟨#[]⟩, ⟨#[97]⟩, ⟨#[97]⟩, ⟨#[99, 97, 108, 108]⟩, ⟨#[109, 97, 105, 110]⟩, ⟨#[114, 101, 102, 101, 114]⟩] : List ByteArray)) (enc := stV) (heap_new (by first | rfl | simp)) stV_len rfl (by simp [maxLen]) rfl)
  have hgs : g < w1.heap.size := by first | omega | (have := C1.out.lt; simpa using this)
  refine (of_any g (K + 2) _ 6 6 _ _ (Cq.out.le (by omega)) (by omega) Aq.out (by omega) (by omega) (fun a ha => by injection ha with ha; subst ha; first | omega | (simp; done) | (simp; omega) | (simp at hgs ⊢; omega))).mono ?_
  rintro e w2 ⟨⟨h, rfl, hx⟩, hc, hg⟩
  have Xh := Lib.hid (of_sz (m := 24) hx (by decide))
  have C2 := Lib.hid hc
  have G2 := Lib.hid (grown_trans Gq.out hg)
  have R2 := Lib.hid (Rq.out.cur hg hgw)
  clear hx hc hg hgs Cq Gq Aq C1 G1 Rq R1
  have hw3 := G2.out.size
  have hwb : w.heap.size < w2.heap.size := by have := (R2.out.lt (k := w.heap.size) rfl).2; exact this
  have hgb : g < w2.heap.size := by omega
  have B3 := Lib.hid ((own_one (enc := baV) w2 #[.int .i64 x, .string h] 25 (⟨x, h⟩ : BA) rfl rfl).base_le (b := w.heap.size) hw3)
  have C3 := Lib.hid (C2.out.below (below_alloc (.cells #[.int .i64 x, .string h] 25)))
  have G3 := Lib.hid (grown_below G2.out (below_alloc (.cells #[.int .i64 x, .string h] 25)))
  have R3 := Lib.hid (R2.out.below (below_alloc (.cells #[.int .i64 x, .string h] 25)))
  clear C2 G2 R2
  go_wp2_with fail
  refine (pick_any g (K + 4) 60 _ (C3.out.le (by omega)) (by omega) (by omega) (by omega)).mono ?_
  rintro e w4 ⟨⟨s, rfl, s_0, s_1⟩, hc, hg⟩
  have C4 := Lib.hid hc
  have G4 := Lib.hid (grown_trans G3.out hg)
  have R4 := Lib.hid (R3.out.cur hg hgw)
  have B4 := Lib.hid (B3.out.cur hg hgw)
  clear hc hg C3 G3 R3 B3
  by_cases hs0 : s = 0
  · subst hs0
    have Cq := Lib.hid (C4.out.below (below_alloc (.cells #[.int .i64 0, .int .i64 10000] 3)))
    have Gq := Lib.hid (grown_below G4.out (below_alloc (.cells #[.int .i64 0, .int .i64 10000] 3)))
    have Rq := Lib.hid (R4.out.below (below_alloc (.cells #[.int .i64 0, .int .i64 10000] 3)))
    have Bq := Lib.hid (B4.out.below (below_alloc (.cells #[.int .i64 0, .int .i64 10000] 3)))
    go_wp2_with fail
    have Aq := Lib.hid (rd_lit (w := w4.alloc (.cells #[.int .i64 0, .int .i64 10000] 3)) (k := w4.heap.size) (n := 2) (l := ([0, 10000] : List Int)) (enc := inV) (heap_new (by first | rfl | simp)) inV_len rfl (by simp [maxLen]) rfl)
    have hgs : g < w4.heap.size := by first | omega | (have := C4.out.lt; simpa using this)
    refine (among_any g (K + 6) _ 2 2 _ _ (Cq.out.le (by omega)) (by omega) Aq.out (by omega) (by omega) (fun a ha => by injection ha with ha; subst ha; first | omega | (simp; done) | (simp; omega) | (simp at hgs ⊢; omega))).mono ?_
    rintro e w5 ⟨⟨t, rfl, hx⟩, hc, hg⟩
    have Xt := Lib.hid (mem_bd (lo := 0) (hi := 10000) hx (by decide))
    have C5 := Lib.hid hc
    have G5 := Lib.hid (grown_trans Gq.out hg)
    have R5 := Lib.hid (Rq.out.cur hg hgw)
    have B5 := Lib.hid (Bq.out.cur hg hgw)
    clear hx hc hg hgs Cq Gq Aq C4 G4 Rq R4 Bq B4
    obtain ⟨⟨q05, q15⟩, k05, k15⟩ := bx_cells B5.out
    obtain ⟨bx0, gx0⟩ := bx_set0 B5.out (t)
    have B6 := Lib.hid bx0
    have C6 := Lib.hid (C5.out.grown gx0 (fun k hk => by injection hk with hk; omega))
    have G6 := Lib.hid (grown_row G5.out gx0 (fun k hk => by injection hk with hk; omega))
    have R6 := Lib.hid (R5.out.grown gx0 (.inr (by simp [blockOf]; omega)))
    clear bx0 gx0 C5 G5 R5 B5
    obtain ⟨⟨q06, q16⟩, k06, k16⟩ := bx_cells B6.out
    obtain ⟨⟨r0, r1⟩, z0, z1⟩ := bx_cells R6.out
    obtain ⟨y0, g0⟩ := bx_set0 R6.out (t)
    obtain ⟨y1, g1⟩ := bx_set1 y0 (h)
    have CF := Lib.hid ((C6.out.grown (grown_trans g0 g1) (fun k hk => by injection hk with hk; omega)).le (K' := K + 12) (by omega))
    have GF := Lib.hid (grown_row G6.out (grown_trans g0 g1) (fun k hk => by injection hk with hk; omega))
    obtain ⟨⟨v0, v1⟩, -⟩ := bx_cells y1
    clear y0 y1 g0 g1
    go_wp2
    exact bodyPost_ret (v := .agg #[.int .i64 (t), .string (h)]) (by simp [results, Tryz.results15, go_sem, v0, v1]) rfl ⟨⟨⟨t, h⟩, rfl, (show (h : ByteArray).size ≤ 24 from Xh.out)⟩, CF.out, GF.out⟩
  have es0 : (s == 0) = false := by simp; omega
  by_cases hs1 : s = 1
  · subst hs1
    have Cq := Lib.hid (C4.out.below (below_alloc (.cells #[.string ⟨#[65]⟩, .string ⟨#[97, 32, 98]⟩, .string ⟨#[97, 98, 99, 100, 101, 102, 103, 104, 105, 106, 107]⟩, .string ⟨#[45]⟩] 9)))
    have Gq := Lib.hid (grown_below G4.out (below_alloc (.cells #[.string ⟨#[65]⟩, .string ⟨#[97, 32, 98]⟩, .string ⟨#[97, 98, 99, 100, 101, 102, 103, 104, 105, 106, 107]⟩, .string ⟨#[45]⟩] 9)))
    have Rq := Lib.hid (R4.out.below (below_alloc (.cells #[.string ⟨#[65]⟩, .string ⟨#[97, 32, 98]⟩, .string ⟨#[97, 98, 99, 100, 101, 102, 103, 104, 105, 106, 107]⟩, .string ⟨#[45]⟩] 9)))
    have Bq := Lib.hid (B4.out.below (below_alloc (.cells #[.string ⟨#[65]⟩, .string ⟨#[97, 32, 98]⟩, .string ⟨#[97, 98, 99, 100, 101, 102, 103, 104, 105, 106, 107]⟩, .string ⟨#[45]⟩] 9)))
    go_wp2_with fail
    have Aq := Lib.hid (rd_lit (w := w4.alloc (.cells #[.string ⟨#[65]⟩, .string ⟨#[97, 32, 98]⟩, .string ⟨#[97, 98, 99, 100, 101, 102, 103, 104, 105, 106, 107]⟩, .string ⟨#[45]⟩] 9)) (k := w4.heap.size) (n := 4) (l := ([⟨#[65]⟩, ⟨#[97, 32, 98]⟩, ⟨#[97, 98, 99, 100, 101, 102, 103, 104, 105, 106, 107]⟩, ⟨#[45]⟩] : List ByteArray)) (enc := stV) (heap_new (by first | rfl | simp)) stV_len rfl (by simp [maxLen]) rfl)
    have hgs : g < w4.heap.size := by first | omega | (have := C4.out.lt; simpa using this)
    refine (of_any g (K + 6) _ 4 4 _ _ (Cq.out.le (by omega)) (by omega) Aq.out (by omega) (by omega) (fun a ha => by injection ha with ha; subst ha; first | omega | (simp; done) | (simp; omega) | (simp at hgs ⊢; omega))).mono ?_
    rintro e w5 ⟨⟨t, rfl, hx⟩, hc, hg⟩
    have Xt := Lib.hid (of_sz (m := 24) hx (by decide))
    have C5 := Lib.hid hc
    have G5 := Lib.hid (grown_trans Gq.out hg)
    have R5 := Lib.hid (Rq.out.cur hg hgw)
    have B5 := Lib.hid (Bq.out.cur hg hgw)
    clear hx hc hg hgs Cq Gq Aq C4 G4 Rq R4 Bq B4
    obtain ⟨⟨q05, q15⟩, k05, k15⟩ := bx_cells B5.out
    obtain ⟨bx0, gx0⟩ := bx_set1 B5.out (t)
    have B6 := Lib.hid bx0
    have C6 := Lib.hid (C5.out.grown gx0 (fun k hk => by injection hk with hk; omega))
    have G6 := Lib.hid (grown_row G5.out gx0 (fun k hk => by injection hk with hk; omega))
    have R6 := Lib.hid (R5.out.grown gx0 (.inr (by simp [blockOf]; omega)))
    clear bx0 gx0 C5 G5 R5 B5
    obtain ⟨⟨q06, q16⟩, k06, k16⟩ := bx_cells B6.out
    obtain ⟨⟨r0, r1⟩, z0, z1⟩ := bx_cells R6.out
    obtain ⟨y0, g0⟩ := bx_set0 R6.out (x)
    obtain ⟨y1, g1⟩ := bx_set1 y0 (t)
    have CF := Lib.hid ((C6.out.grown (grown_trans g0 g1) (fun k hk => by injection hk with hk; omega)).le (K' := K + 12) (by omega))
    have GF := Lib.hid (grown_row G6.out (grown_trans g0 g1) (fun k hk => by injection hk with hk; omega))
    obtain ⟨⟨v0, v1⟩, -⟩ := bx_cells y1
    clear y0 y1 g0 g1
    go_wp2
    exact bodyPost_ret (v := .agg #[.int .i64 (x), .string (t)]) (by simp [results, Tryz.results15, go_sem, v0, v1]) rfl ⟨⟨⟨x, t⟩, rfl, (show (t : ByteArray).size ≤ 24 from Xt.out)⟩, CF.out, GF.out⟩
  have es1 : (s == 1) = false := by simp; omega
  obtain ⟨⟨q04, q14⟩, k04, k14⟩ := bx_cells B4.out
  obtain ⟨⟨r0, r1⟩, z0, z1⟩ := bx_cells R4.out
  obtain ⟨y0, g0⟩ := bx_set0 R4.out (x)
  obtain ⟨y1, g1⟩ := bx_set1 y0 (h)
  have CF := Lib.hid ((C4.out.grown (grown_trans g0 g1) (fun k hk => by injection hk with hk; omega)).le (K' := K + 12) (by omega))
  have GF := Lib.hid (grown_row G4.out (grown_trans g0 g1) (fun k hk => by injection hk with hk; omega))
  obtain ⟨⟨v0, v1⟩, -⟩ := bx_cells y1
  clear y0 y1 g0 g1
  go_wp2
  exact bodyPost_ret (v := .agg #[.int .i64 (x), .string (h)]) (by simp [results, Tryz.results15, go_sem, v0, v1]) rfl ⟨⟨⟨x, h⟩, rfl, (show (h : ByteArray).size ≤ 24 from Xh.out)⟩, CF.out, GF.out⟩


end Go.Proofs.YtcockjjilcapaaaGreatDoor
