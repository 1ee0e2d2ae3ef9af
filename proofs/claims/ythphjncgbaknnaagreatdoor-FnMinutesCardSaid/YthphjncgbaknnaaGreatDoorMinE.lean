/-
  YthphjncgbaknnaaGreatDoorMinE: minutes: the draws of entries and of minutes. (Printed by wip/gen/mine.py.)
-/
import Derived.Test.YthphjncgbaknnaaGreatDoorMinY
import Derived.Test.YthphjncgbaknnaaGreatDoorOf
namespace Go.Proofs.YthphjncgbaknnaaGreatDoor
open Go Go.RowKit Go.Sort
set_option linter.unusedVariables false

/-- A new block as a row of one element. -/
theorem own_one {α : Type} {enc : α → List Value} {sz : Nat} (w : World) (cs : Array Value) (e : TypeId) (y : α) (hcs : cs.toList = enc y) (he : (enc y).length = sz) : Own enc sz (w.alloc (.cells cs e)) w.heap.size e (some ⟨w.heap.size, 0, none⟩) 1 1 [y] :=
  ⟨rfl, by
    have := World.ownsRow_lit (base := w.heap.size) (e := e) (size := sz) w cs 1 (Nat.le_refl _) (by simp [maxLen]) (by rw [Nat.one_mul, ← he, ← hcs, Array.length_toList])
    rw [hcs] at this
    simpa using this⟩
theorem mem_bd {x lo hi : Int} {l : List Int} (h : x ∈ l) (hb : ∀ y ∈ l, lo ≤ y ∧ y ≤ hi) : lo ≤ x ∧ x ≤ hi := hb x h

theorem bx_cells {w : World} {base b : Nat} {e : TypeId} {x0 : Int} {x1 x2 : ByteArray} {x3 x4 x5 : Int} {x6 : Bool} (h : Own enV 7 w base e (some ⟨b, 0, none⟩) 1 1 [⟨x0, x1, x2, x3, x4, x5, x6⟩]) :
    (w.cell? ⟨b, 0, none⟩ = some (.int .i64 x0) ∧ w.cell? ⟨b, 1, none⟩ = some (.string x1) ∧ w.cell? ⟨b, 2, none⟩ = some (.string x2) ∧ w.cell? ⟨b, 3, none⟩ = some (.int .i64 x3) ∧ w.cell? ⟨b, 4, none⟩ = some (.int .i64 x4) ∧ w.cell? ⟨b, 5, none⟩ = some (.int .i64 x5) ∧ w.cell? ⟨b, 6, none⟩ = some (.bool x6)) ∧ w.frozen? ⟨b, 0, none⟩ = false ∧ w.frozen? ⟨b, 1, none⟩ = false ∧ w.frozen? ⟨b, 2, none⟩ = false ∧ w.frozen? ⟨b, 3, none⟩ = false ∧ w.frozen? ⟨b, 4, none⟩ = false ∧ w.frozen? ⟨b, 5, none⟩ = false ∧ w.frozen? ⟨b, 6, none⟩ = false :=
  ⟨⟨by simpa using h.cell enV_len (i := 0) (j := 0) rfl rfl, by simpa using h.cell enV_len (i := 0) (j := 1) rfl rfl, by simpa using h.cell enV_len (i := 0) (j := 2) rfl rfl, by simpa using h.cell enV_len (i := 0) (j := 3) rfl rfl, by simpa using h.cell enV_len (i := 0) (j := 4) rfl rfl, by simpa using h.cell enV_len (i := 0) (j := 5) rfl rfl, by simpa using h.cell enV_len (i := 0) (j := 6) rfl rfl⟩, h.frozen 0, h.frozen 1, h.frozen 2, h.frozen 3, h.frozen 4, h.frozen 5, h.frozen 6⟩
theorem bx_set0 {w : World} {base b : Nat} {e : TypeId} {x0 : Int} {x1 x2 : ByteArray} {x3 x4 x5 : Int} {x6 : Bool} (h : Own enV 7 w base e (some ⟨b, 0, none⟩) 1 1 [⟨x0, x1, x2, x3, x4, x5, x6⟩]) (z : Int) : Own enV 7 (w.setCell ⟨b, 0, none⟩ (.int .i64 z)) base e (some ⟨b, 0, none⟩) 1 1 [⟨z, x1, x2, x3, x4, x5, x6⟩] ∧ w.grownBy (w.setCell ⟨b, 0, none⟩ (.int .i64 z)) (some b) := by
  simpa using h.store enV_len (i := 0) (j := 0) rfl (by omega) (⟨z, x1, x2, x3, x4, x5, x6⟩ : EN) (.int .i64 z) rfl
theorem bx_set1 {w : World} {base b : Nat} {e : TypeId} {x0 : Int} {x1 x2 : ByteArray} {x3 x4 x5 : Int} {x6 : Bool} (h : Own enV 7 w base e (some ⟨b, 0, none⟩) 1 1 [⟨x0, x1, x2, x3, x4, x5, x6⟩]) (z : ByteArray) : Own enV 7 (w.setCell ⟨b, 1, none⟩ (.string z)) base e (some ⟨b, 0, none⟩) 1 1 [⟨x0, z, x2, x3, x4, x5, x6⟩] ∧ w.grownBy (w.setCell ⟨b, 1, none⟩ (.string z)) (some b) := by
  simpa using h.store enV_len (i := 0) (j := 1) rfl (by omega) (⟨x0, z, x2, x3, x4, x5, x6⟩ : EN) (.string z) rfl
theorem bx_set2 {w : World} {base b : Nat} {e : TypeId} {x0 : Int} {x1 x2 : ByteArray} {x3 x4 x5 : Int} {x6 : Bool} (h : Own enV 7 w base e (some ⟨b, 0, none⟩) 1 1 [⟨x0, x1, x2, x3, x4, x5, x6⟩]) (z : ByteArray) : Own enV 7 (w.setCell ⟨b, 2, none⟩ (.string z)) base e (some ⟨b, 0, none⟩) 1 1 [⟨x0, x1, z, x3, x4, x5, x6⟩] ∧ w.grownBy (w.setCell ⟨b, 2, none⟩ (.string z)) (some b) := by
  simpa using h.store enV_len (i := 0) (j := 2) rfl (by omega) (⟨x0, x1, z, x3, x4, x5, x6⟩ : EN) (.string z) rfl
theorem bx_set3 {w : World} {base b : Nat} {e : TypeId} {x0 : Int} {x1 x2 : ByteArray} {x3 x4 x5 : Int} {x6 : Bool} (h : Own enV 7 w base e (some ⟨b, 0, none⟩) 1 1 [⟨x0, x1, x2, x3, x4, x5, x6⟩]) (z : Int) : Own enV 7 (w.setCell ⟨b, 3, none⟩ (.int .i64 z)) base e (some ⟨b, 0, none⟩) 1 1 [⟨x0, x1, x2, z, x4, x5, x6⟩] ∧ w.grownBy (w.setCell ⟨b, 3, none⟩ (.int .i64 z)) (some b) := by
  simpa using h.store enV_len (i := 0) (j := 3) rfl (by omega) (⟨x0, x1, x2, z, x4, x5, x6⟩ : EN) (.int .i64 z) rfl
theorem bx_set4 {w : World} {base b : Nat} {e : TypeId} {x0 : Int} {x1 x2 : ByteArray} {x3 x4 x5 : Int} {x6 : Bool} (h : Own enV 7 w base e (some ⟨b, 0, none⟩) 1 1 [⟨x0, x1, x2, x3, x4, x5, x6⟩]) (z : Int) : Own enV 7 (w.setCell ⟨b, 4, none⟩ (.int .i64 z)) base e (some ⟨b, 0, none⟩) 1 1 [⟨x0, x1, x2, x3, z, x5, x6⟩] ∧ w.grownBy (w.setCell ⟨b, 4, none⟩ (.int .i64 z)) (some b) := by
  simpa using h.store enV_len (i := 0) (j := 4) rfl (by omega) (⟨x0, x1, x2, x3, z, x5, x6⟩ : EN) (.int .i64 z) rfl
theorem bx_set5 {w : World} {base b : Nat} {e : TypeId} {x0 : Int} {x1 x2 : ByteArray} {x3 x4 x5 : Int} {x6 : Bool} (h : Own enV 7 w base e (some ⟨b, 0, none⟩) 1 1 [⟨x0, x1, x2, x3, x4, x5, x6⟩]) (z : Int) : Own enV 7 (w.setCell ⟨b, 5, none⟩ (.int .i64 z)) base e (some ⟨b, 0, none⟩) 1 1 [⟨x0, x1, x2, x3, x4, z, x6⟩] ∧ w.grownBy (w.setCell ⟨b, 5, none⟩ (.int .i64 z)) (some b) := by
  simpa using h.store enV_len (i := 0) (j := 5) rfl (by omega) (⟨x0, x1, x2, x3, x4, z, x6⟩ : EN) (.int .i64 z) rfl
theorem bx_set6 {w : World} {base b : Nat} {e : TypeId} {x0 : Int} {x1 x2 : ByteArray} {x3 x4 x5 : Int} {x6 : Bool} (h : Own enV 7 w base e (some ⟨b, 0, none⟩) 1 1 [⟨x0, x1, x2, x3, x4, x5, x6⟩]) (z : Bool) : Own enV 7 (w.setCell ⟨b, 6, none⟩ (.bool z)) base e (some ⟨b, 0, none⟩) 1 1 [⟨x0, x1, x2, x3, x4, x5, z⟩] ∧ w.grownBy (w.setCell ⟨b, 6, none⟩ (.bool z)) (some b) := by
  simpa using h.store enV_len (i := 0) (j := 6) rfl (by omega) (⟨x0, x1, x2, x3, x4, x5, z⟩ : EN) (.bool z) rfl

theorem person_any (g K : Nat) (w : World) (h : Cur w g K) (hK : K ≤ 1000000) : Calls Tryz.prog 50 #[.pointer (some ⟨g, 0, none⟩)] w fun e w' => (∃ x : ByteArray, e = .returned (.string x) ∧ x.size ≤ 12) ∧ Cur w' g (K + 2) ∧ w.grownBy w' (some g) := by
  have hg := h.lt
  have H0 := Lib.hid (h.below (below_alloc (.cells #[.string ⟨#[97, 100, 97]⟩, .string ⟨#[98, 111]⟩, .string ⟨#[99, 108, 101, 111]⟩, .string ⟨#[97]⟩, .string ⟨#[100, 105, 109, 105, 116, 114, 105, 111, 115, 120]⟩] 9)))
  have R0 := Lib.hid (rd_lit (w := w.alloc (.cells #[.string ⟨#[97, 100, 97]⟩, .string ⟨#[98, 111]⟩, .string ⟨#[99, 108, 101, 111]⟩, .string ⟨#[97]⟩, .string ⟨#[100, 105, 109, 105, 116, 114, 105, 111, 115, 120]⟩] 9)) (k := w.heap.size) (n := 5) (l := ([⟨#[97, 100, 97]⟩, ⟨#[98, 111]⟩, ⟨#[99, 108, 101, 111]⟩, ⟨#[97]⟩, ⟨#[100, 105, 109, 105, 116, 114, 105, 111, 115, 120]⟩] : List ByteArray)) (enc := stV) (heap_new rfl) stV_len rfl (by simp [maxLen]) rfl)
  clear h
  go_enter Tryz.func50, Tryz.ntmps50
  go_wp2_with fail
  refine (of_any g K _ 5 5 _ _ H0.out hK R0.out (by omega) (by omega) (fun a ha => by injection ha with ha; subst ha; simp; omega)).mono ?_
  rintro e w1 ⟨⟨x, rfl, hx⟩, hc1, hg1⟩
  have HX := Lib.hid (of_sz (m := 12) hx (by decide))
  have H1 := Lib.hid hc1
  have G1 := Lib.hid (below_of_cur (below_alloc _) hg1)
  clear hx hc1 hg1
  go_wp2
  go_ret
  exact ⟨⟨x, rfl, HX.out⟩, H1.out, G1.out⟩


def EnS (x : EN) : Prop := x.who.size ≤ 24 ∧ x.mo.size ≤ 24
theorem ens_sz {x : EN} (h : EnS x) : EnSz x := ⟨Nat.le_trans h.1 (by simp [maxLen]), Nat.le_trans h.2 (by simp [maxLen])⟩
set_option maxRecDepth 100000 in
set_option maxHeartbeats 16000000 in
theorem entry_any (g K : Nat) (w : World) (h : Cur w g K) (hK : K ≤ 100000) : Calls Tryz.prog 26 #[.pointer (some ⟨g, 0, none⟩)] w fun e w' => (∃ x : EN, e = .returned (.agg #[.int .i64 x.kind, .string x.who, .string x.mo, .int .i64 x.yes, .int .i64 x.no, .int .i64 x.ab, .bool x.pa]) ∧ EnS x) ∧ Cur w' g (K + 30) ∧ w.grownBy w' (some g) := by
  have hgw := h.lt
  have R0 := Lib.hid (own_one (enc := enV) w #[.int .i64 0, .string ⟨#[]⟩, .string ⟨#[]⟩, .int .i64 0, .int .i64 0, .int .i64 0, .bool false] 27 (⟨0, ⟨#[]⟩, ⟨#[]⟩, 0, 0, 0, false⟩ : EN) rfl rfl)
  have C0 := Lib.hid (h.below (below_alloc (.cells #[.int .i64 0, .string ⟨#[]⟩, .string ⟨#[]⟩, .int .i64 0, .int .i64 0, .int .i64 0, .bool false] 27)))
  have G0 := Lib.hid (grown_of_below (below_alloc (w := w) (.cells #[.int .i64 0, .string ⟨#[]⟩, .string ⟨#[]⟩, .int .i64 0, .int .i64 0, .int .i64 0, .bool false] 27)) (some g))
  clear h
  go_enter Tryz.func26, Tryz.ntmps26
  go_wp2_with fail
  refine (pick_any g K 6 _ (C0.out.le (by omega)) (by omega) (by omega) (by omega)).mono ?_
  rintro e w1 ⟨⟨x, rfl, x_0, x_1⟩, hc, hg⟩
  have C1 := Lib.hid hc
  have G1 := Lib.hid (grown_trans G0.out hg)
  have R1 := Lib.hid (R0.out.cur hg hgw)
  clear hc hg C0 G0 R0
  go_wp2_with fail
  refine (person_any g (K + 2) _ (C1.out.le (by omega)) (by omega)).mono ?_
  rintro e w2 ⟨⟨h, rfl, h_s⟩, hc, hg⟩
  have C2 := Lib.hid hc
  have G2 := Lib.hid (grown_trans G1.out hg)
  have R2 := Lib.hid (R1.out.cur hg hgw)
  clear hc hg C1 G1 R1
  have Cq := Lib.hid (C2.out.below (below_alloc (.cells #[.string ⟨#[97, 100, 106, 111, 117, 114, 110]⟩, .string ⟨#[97, 100, 106, 111, 117, 114, 110]⟩, .string ⟨#[114, 101, 102, 101, 114]⟩, .string ⟨#[97, 109, 101, 110, 100]⟩, .string ⟨#[114, 117, 108, 101, 100]⟩, .string ⟨#[111, 112, 101, 110, 101, 100]⟩] 9)))
  have Gq := Lib.hid (grown_below G2.out (below_alloc (.cells #[.string ⟨#[97, 100, 106, 111, 117, 114, 110]⟩, .string ⟨#[97, 100, 106, 111, 117, 114, 110]⟩, .string ⟨#[114, 101, 102, 101, 114]⟩, .string ⟨#[97, 109, 101, 110, 100]⟩, .string ⟨#[114, 117, 108, 101, 100]⟩, .string ⟨#[111, 112, 101, 110, 101, 100]⟩] 9)))
  have Rq := Lib.hid (R2.out.below (below_alloc (.cells #[.string ⟨#[97, 100, 106, 111, 117, 114, 110]⟩, .string ⟨#[97, 100, 106, 111, 117, 114, 110]⟩, .string ⟨#[114, 101, 102, 101, 114]⟩, .string ⟨#[97, 109, 101, 110, 100]⟩, .string ⟨#[114, 117, 108, 101, 100]⟩, .string ⟨#[111, 112, 101, 110, 101, 100]⟩] 9)))
  go_wp2_with fail
  have Aq := Lib.hid (rd_lit (w := w2.alloc (.cells #[.string ⟨#[97, 100, 106, 111, 117, 114, 110]⟩, .string ⟨#[97, 100, 106, 111, 117, 114, 110]⟩, .string ⟨#[114, 101, 102, 101, 114]⟩, .string ⟨#[97, 109, 101, 110, 100]⟩, .string ⟨#[114, 117, 108, 101, 100]⟩, .string ⟨#[111, 112, 101, 110, 101, 100]⟩] 9)) (k := w2.heap.size) (n := 6) (l := ([⟨#[97, 100, 106, 111, 117, 114, 110]⟩, ⟨#[97, 100, 106, 111, 117, 114, 110]⟩, ⟨#[114, 101, 102, 101, 114]⟩, ⟨#[97, 109, 101, 110, 100]⟩, ⟨#[114, 117, 108, 101, 100]⟩, ⟨#[111, 112, 101, 110, 101, 100]⟩] : List ByteArray)) (enc := stV) (heap_new (by first | rfl | simp)) stV_len rfl (by simp [maxLen]) rfl)
  have hgs : g < w2.heap.size := by have := C2.out.lt; simpa using this
  refine (of_any g (K + 4) _ 6 6 _ _ (Cq.out.le (by omega)) (by omega) Aq.out (by omega) (by omega) (fun a ha => by injection ha with ha; subst ha; first | omega | (simp; omega) | (simp at hgs ⊢; omega))).mono ?_
  rintro e w3 ⟨⟨mo, rfl, hx⟩, hc, hg⟩
  have Xmo := Lib.hid (of_sz (m := 24) hx (by decide))
  have C3 := Lib.hid hc
  have G3 := Lib.hid (grown_trans Gq.out hg)
  have R3 := Lib.hid (Rq.out.cur hg hgw)
  clear hx hc hg hgs Cq Gq Aq C2 G2 Rq R2
  have hw3 := G3.out.size
  have hwb : w.heap.size < w3.heap.size := by have := (R3.out.lt (k := w.heap.size) rfl).2; exact this
  have hgb : g < w3.heap.size := by omega
  by_cases hx0 : x = 0
  · subst hx0
    have B5 := Lib.hid ((own_one (enc := enV) w3 #[.int .i64 (1), .string h, .string ⟨#[]⟩, .int .i64 0, .int .i64 0, .int .i64 0, .bool false] 27 (⟨1, h, ⟨#[]⟩, 0, 0, 0, false⟩ : EN) rfl rfl).base_le (b := w.heap.size) hw3)
    have C5 := Lib.hid (C3.out.below (below_alloc (.cells #[.int .i64 (1), .string h, .string ⟨#[]⟩, .int .i64 0, .int .i64 0, .int .i64 0, .bool false] 27)))
    have G5 := Lib.hid (grown_below G3.out (below_alloc (.cells #[.int .i64 (1), .string h, .string ⟨#[]⟩, .int .i64 0, .int .i64 0, .int .i64 0, .bool false] 27)))
    have R5 := Lib.hid (R3.out.below (below_alloc (.cells #[.int .i64 (1), .string h, .string ⟨#[]⟩, .int .i64 0, .int .i64 0, .int .i64 0, .bool false] 27)))
    clear C3 G3 R3
    go_wp2_with fail
    refine (pick_any g (K + 16) 60 _ (C5.out.le (by omega)) (by omega) (by omega) (by omega)).mono ?_
    rintro e w8 ⟨⟨s, rfl, s_0, s_1⟩, hc, hg⟩
    have C8 := Lib.hid hc
    have G8 := Lib.hid (grown_trans G5.out hg)
    have R8 := Lib.hid (R5.out.cur hg hgw)
    have B8 := Lib.hid (B5.out.cur hg hgw)
    clear hc hg C5 G5 R5 B5
    by_cases hs0 : s = 0
    · subst hs0
      have Cq := Lib.hid (C8.out.below (below_alloc (.cells #[.int .i64 0, .int .i64 7, .int .i64 1, .int .i64 4] 3)))
      have Gq := Lib.hid (grown_below G8.out (below_alloc (.cells #[.int .i64 0, .int .i64 7, .int .i64 1, .int .i64 4] 3)))
      have Rq := Lib.hid (R8.out.below (below_alloc (.cells #[.int .i64 0, .int .i64 7, .int .i64 1, .int .i64 4] 3)))
      have Bq := Lib.hid (B8.out.below (below_alloc (.cells #[.int .i64 0, .int .i64 7, .int .i64 1, .int .i64 4] 3)))
      go_wp2_with fail
      have Aq := Lib.hid (rd_lit (w := w8.alloc (.cells #[.int .i64 0, .int .i64 7, .int .i64 1, .int .i64 4] 3)) (k := w8.heap.size) (n := 4) (l := ([0, 7, 1, 4] : List Int)) (enc := inV) (heap_new (by first | rfl | simp)) inV_len rfl (by simp [maxLen]) rfl)
      have hgs : g < w8.heap.size := by have := C8.out.lt; simpa using this
      refine (among_any g (K + 18) _ 4 4 _ _ (Cq.out.le (by omega)) (by omega) Aq.out (by omega) (by omega) (fun a ha => by injection ha with ha; subst ha; first | omega | (simp; omega) | (simp at hgs ⊢; omega))).mono ?_
      rintro e w9 ⟨⟨t, rfl, hx⟩, hc, hg⟩
      have Xt := Lib.hid (mem_bd (lo := 0) (hi := 7) hx (by decide))
      have C9 := Lib.hid hc
      have G9 := Lib.hid (grown_trans Gq.out hg)
      have R9 := Lib.hid (Rq.out.cur hg hgw)
      have B9 := Lib.hid (Bq.out.cur hg hgw)
      clear hx hc hg hgs Cq Gq Aq C8 G8 Rq R8 Bq B8
      obtain ⟨⟨q09, q19, q29, q39, q49, q59, q69⟩, k09, k19, k29, k39, k49, k59, k69⟩ := bx_cells B9.out
      obtain ⟨bx0, gx0⟩ := bx_set0 B9.out (t)
      have BA := Lib.hid bx0
      have CA := Lib.hid (C9.out.grown gx0 (fun k hk => by injection hk with hk; omega))
      have GA := Lib.hid (grown_row G9.out gx0 (fun k hk => by injection hk with hk; omega))
      have RA := Lib.hid (R9.out.grown gx0 (.inr (by simp [blockOf]; omega)))
      clear bx0 gx0 C9 G9 R9 B9
      obtain ⟨⟨q0A, q1A, q2A, q3A, q4A, q5A, q6A⟩, k0A, k1A, k2A, k3A, k4A, k5A, k6A⟩ := bx_cells BA.out
      obtain ⟨⟨r0, r1, r2, r3, r4, r5, r6⟩, z0, z1, z2, z3, z4, z5, z6⟩ := bx_cells RA.out
      obtain ⟨y0, g0⟩ := bx_set0 RA.out (t)
      obtain ⟨y1, g1⟩ := bx_set1 y0 (h)
      obtain ⟨y2, g2⟩ := bx_set2 y1 (⟨#[]⟩)
      obtain ⟨y3, g3⟩ := bx_set3 y2 (0)
      obtain ⟨y4, g4⟩ := bx_set4 y3 (0)
      obtain ⟨y5, g5⟩ := bx_set5 y4 (0)
      obtain ⟨y6, g6⟩ := bx_set6 y5 (false)
      have CF := Lib.hid ((CA.out.grown (grown_trans (grown_trans (grown_trans (grown_trans (grown_trans (grown_trans g0 g1) g2) g3) g4) g5) g6) (fun k hk => by injection hk with hk; omega)).le (K' := K + 30) (by omega))
      have GF := Lib.hid (grown_row GA.out (grown_trans (grown_trans (grown_trans (grown_trans (grown_trans (grown_trans g0 g1) g2) g3) g4) g5) g6) (fun k hk => by injection hk with hk; omega))
      obtain ⟨⟨v0, v1, v2, v3, v4, v5, v6⟩, -⟩ := bx_cells y6
      clear y0 y1 y2 y3 y4 y5 y6 g0 g1 g2 g3 g4 g5 g6
      go_wp2
      exact bodyPost_ret (v := .agg #[.int .i64 (t), .string (h), .string (⟨#[]⟩), .int .i64 (0), .int .i64 (0), .int .i64 (0), .bool (false)]) (by simp [results, Tryz.results26, go_sem, v0, v1, v2, v3, v4, v5, v6]) rfl ⟨⟨⟨t, h, ⟨#[]⟩, 0, 0, 0, false⟩, rfl, ⟨(show (h : ByteArray).size ≤ 24 from Nat.le_trans h_s (by omega)), (show (⟨#[]⟩ : ByteArray).size ≤ 24 from by decide)⟩⟩, CF.out, GF.out⟩
    have es0 : (s == 0) = false := by simp; omega
    by_cases hs1 : s = 1
    · subst hs1
      have Cq := Lib.hid (C8.out.below (below_alloc (.cells #[.string ⟨#[]⟩, .string ⟨#[65]⟩, .string ⟨#[97, 98, 99, 100, 101, 102, 103, 104, 105, 106, 107]⟩] 9)))
      have Gq := Lib.hid (grown_below G8.out (below_alloc (.cells #[.string ⟨#[]⟩, .string ⟨#[65]⟩, .string ⟨#[97, 98, 99, 100, 101, 102, 103, 104, 105, 106, 107]⟩] 9)))
      have Rq := Lib.hid (R8.out.below (below_alloc (.cells #[.string ⟨#[]⟩, .string ⟨#[65]⟩, .string ⟨#[97, 98, 99, 100, 101, 102, 103, 104, 105, 106, 107]⟩] 9)))
      have Bq := Lib.hid (B8.out.below (below_alloc (.cells #[.string ⟨#[]⟩, .string ⟨#[65]⟩, .string ⟨#[97, 98, 99, 100, 101, 102, 103, 104, 105, 106, 107]⟩] 9)))
      go_wp2_with fail
      have Aq := Lib.hid (rd_lit (w := w8.alloc (.cells #[.string ⟨#[]⟩, .string ⟨#[65]⟩, .string ⟨#[97, 98, 99, 100, 101, 102, 103, 104, 105, 106, 107]⟩] 9)) (k := w8.heap.size) (n := 3) (l := ([⟨#[]⟩, ⟨#[65]⟩, ⟨#[97, 98, 99, 100, 101, 102, 103, 104, 105, 106, 107]⟩] : List ByteArray)) (enc := stV) (heap_new (by first | rfl | simp)) stV_len rfl (by simp [maxLen]) rfl)
      have hgs : g < w8.heap.size := by have := C8.out.lt; simpa using this
      refine (of_any g (K + 18) _ 3 3 _ _ (Cq.out.le (by omega)) (by omega) Aq.out (by omega) (by omega) (fun a ha => by injection ha with ha; subst ha; first | omega | (simp; omega) | (simp at hgs ⊢; omega))).mono ?_
      rintro e w9 ⟨⟨t, rfl, hx⟩, hc, hg⟩
      have Xt := Lib.hid (of_sz (m := 24) hx (by decide))
      have C9 := Lib.hid hc
      have G9 := Lib.hid (grown_trans Gq.out hg)
      have R9 := Lib.hid (Rq.out.cur hg hgw)
      have B9 := Lib.hid (Bq.out.cur hg hgw)
      clear hx hc hg hgs Cq Gq Aq C8 G8 Rq R8 Bq B8
      obtain ⟨⟨q09, q19, q29, q39, q49, q59, q69⟩, k09, k19, k29, k39, k49, k59, k69⟩ := bx_cells B9.out
      obtain ⟨bx0, gx0⟩ := bx_set1 B9.out (t)
      have BA := Lib.hid bx0
      have CA := Lib.hid (C9.out.grown gx0 (fun k hk => by injection hk with hk; omega))
      have GA := Lib.hid (grown_row G9.out gx0 (fun k hk => by injection hk with hk; omega))
      have RA := Lib.hid (R9.out.grown gx0 (.inr (by simp [blockOf]; omega)))
      clear bx0 gx0 C9 G9 R9 B9
      obtain ⟨⟨q0A, q1A, q2A, q3A, q4A, q5A, q6A⟩, k0A, k1A, k2A, k3A, k4A, k5A, k6A⟩ := bx_cells BA.out
      obtain ⟨⟨r0, r1, r2, r3, r4, r5, r6⟩, z0, z1, z2, z3, z4, z5, z6⟩ := bx_cells RA.out
      obtain ⟨y0, g0⟩ := bx_set0 RA.out (1)
      obtain ⟨y1, g1⟩ := bx_set1 y0 (t)
      obtain ⟨y2, g2⟩ := bx_set2 y1 (⟨#[]⟩)
      obtain ⟨y3, g3⟩ := bx_set3 y2 (0)
      obtain ⟨y4, g4⟩ := bx_set4 y3 (0)
      obtain ⟨y5, g5⟩ := bx_set5 y4 (0)
      obtain ⟨y6, g6⟩ := bx_set6 y5 (false)
      have CF := Lib.hid ((CA.out.grown (grown_trans (grown_trans (grown_trans (grown_trans (grown_trans (grown_trans g0 g1) g2) g3) g4) g5) g6) (fun k hk => by injection hk with hk; omega)).le (K' := K + 30) (by omega))
      have GF := Lib.hid (grown_row GA.out (grown_trans (grown_trans (grown_trans (grown_trans (grown_trans (grown_trans g0 g1) g2) g3) g4) g5) g6) (fun k hk => by injection hk with hk; omega))
      obtain ⟨⟨v0, v1, v2, v3, v4, v5, v6⟩, -⟩ := bx_cells y6
      clear y0 y1 y2 y3 y4 y5 y6 g0 g1 g2 g3 g4 g5 g6
      go_wp2
      exact bodyPost_ret (v := .agg #[.int .i64 (1), .string (t), .string (⟨#[]⟩), .int .i64 (0), .int .i64 (0), .int .i64 (0), .bool (false)]) (by simp [results, Tryz.results26, go_sem, v0, v1, v2, v3, v4, v5, v6]) rfl ⟨⟨⟨1, t, ⟨#[]⟩, 0, 0, 0, false⟩, rfl, ⟨(show (t : ByteArray).size ≤ 24 from Xt.out), (show (⟨#[]⟩ : ByteArray).size ≤ 24 from by decide)⟩⟩, CF.out, GF.out⟩
    have es1 : (s == 1) = false := by simp; omega
    by_cases hs2 : s = 2
    · subst hs2
      have Cq := Lib.hid (C8.out.below (below_alloc (.cells #[.string ⟨#[]⟩, .string ⟨#[65, 32, 98]⟩] 9)))
      have Gq := Lib.hid (grown_below G8.out (below_alloc (.cells #[.string ⟨#[]⟩, .string ⟨#[65, 32, 98]⟩] 9)))
      have Rq := Lib.hid (R8.out.below (below_alloc (.cells #[.string ⟨#[]⟩, .string ⟨#[65, 32, 98]⟩] 9)))
      have Bq := Lib.hid (B8.out.below (below_alloc (.cells #[.string ⟨#[]⟩, .string ⟨#[65, 32, 98]⟩] 9)))
      go_wp2_with fail
      have Aq := Lib.hid (rd_lit (w := w8.alloc (.cells #[.string ⟨#[]⟩, .string ⟨#[65, 32, 98]⟩] 9)) (k := w8.heap.size) (n := 2) (l := ([⟨#[]⟩, ⟨#[65, 32, 98]⟩] : List ByteArray)) (enc := stV) (heap_new (by first | rfl | simp)) stV_len rfl (by simp [maxLen]) rfl)
      have hgs : g < w8.heap.size := by have := C8.out.lt; simpa using this
      refine (of_any g (K + 18) _ 2 2 _ _ (Cq.out.le (by omega)) (by omega) Aq.out (by omega) (by omega) (fun a ha => by injection ha with ha; subst ha; first | omega | (simp; omega) | (simp at hgs ⊢; omega))).mono ?_
      rintro e w9 ⟨⟨t, rfl, hx⟩, hc, hg⟩
      have Xt := Lib.hid (of_sz (m := 24) hx (by decide))
      have C9 := Lib.hid hc
      have G9 := Lib.hid (grown_trans Gq.out hg)
      have R9 := Lib.hid (Rq.out.cur hg hgw)
      have B9 := Lib.hid (Bq.out.cur hg hgw)
      clear hx hc hg hgs Cq Gq Aq C8 G8 Rq R8 Bq B8
      obtain ⟨⟨q09, q19, q29, q39, q49, q59, q69⟩, k09, k19, k29, k39, k49, k59, k69⟩ := bx_cells B9.out
      obtain ⟨bx0, gx0⟩ := bx_set2 B9.out (t)
      have BA := Lib.hid bx0
      have CA := Lib.hid (C9.out.grown gx0 (fun k hk => by injection hk with hk; omega))
      have GA := Lib.hid (grown_row G9.out gx0 (fun k hk => by injection hk with hk; omega))
      have RA := Lib.hid (R9.out.grown gx0 (.inr (by simp [blockOf]; omega)))
      clear bx0 gx0 C9 G9 R9 B9
      obtain ⟨⟨q0A, q1A, q2A, q3A, q4A, q5A, q6A⟩, k0A, k1A, k2A, k3A, k4A, k5A, k6A⟩ := bx_cells BA.out
      obtain ⟨⟨r0, r1, r2, r3, r4, r5, r6⟩, z0, z1, z2, z3, z4, z5, z6⟩ := bx_cells RA.out
      obtain ⟨y0, g0⟩ := bx_set0 RA.out (1)
      obtain ⟨y1, g1⟩ := bx_set1 y0 (h)
      obtain ⟨y2, g2⟩ := bx_set2 y1 (t)
      obtain ⟨y3, g3⟩ := bx_set3 y2 (0)
      obtain ⟨y4, g4⟩ := bx_set4 y3 (0)
      obtain ⟨y5, g5⟩ := bx_set5 y4 (0)
      obtain ⟨y6, g6⟩ := bx_set6 y5 (false)
      have CF := Lib.hid ((CA.out.grown (grown_trans (grown_trans (grown_trans (grown_trans (grown_trans (grown_trans g0 g1) g2) g3) g4) g5) g6) (fun k hk => by injection hk with hk; omega)).le (K' := K + 30) (by omega))
      have GF := Lib.hid (grown_row GA.out (grown_trans (grown_trans (grown_trans (grown_trans (grown_trans (grown_trans g0 g1) g2) g3) g4) g5) g6) (fun k hk => by injection hk with hk; omega))
      obtain ⟨⟨v0, v1, v2, v3, v4, v5, v6⟩, -⟩ := bx_cells y6
      clear y0 y1 y2 y3 y4 y5 y6 g0 g1 g2 g3 g4 g5 g6
      go_wp2
      exact bodyPost_ret (v := .agg #[.int .i64 (1), .string (h), .string (t), .int .i64 (0), .int .i64 (0), .int .i64 (0), .bool (false)]) (by simp [results, Tryz.results26, go_sem, v0, v1, v2, v3, v4, v5, v6]) rfl ⟨⟨⟨1, h, t, 0, 0, 0, false⟩, rfl, ⟨(show (h : ByteArray).size ≤ 24 from Nat.le_trans h_s (by omega)), (show (t : ByteArray).size ≤ 24 from Xt.out)⟩⟩, CF.out, GF.out⟩
    have es2 : (s == 2) = false := by simp; omega
    by_cases hs3 : s = 3
    · subst hs3
      have Cq := Lib.hid (C8.out.below (below_alloc (.cells #[.int .i64 (-1), .int .i64 1001, .int .i64 1] 3)))
      have Gq := Lib.hid (grown_below G8.out (below_alloc (.cells #[.int .i64 (-1), .int .i64 1001, .int .i64 1] 3)))
      have Rq := Lib.hid (R8.out.below (below_alloc (.cells #[.int .i64 (-1), .int .i64 1001, .int .i64 1] 3)))
      have Bq := Lib.hid (B8.out.below (below_alloc (.cells #[.int .i64 (-1), .int .i64 1001, .int .i64 1] 3)))
      go_wp2_with fail
      have Aq := Lib.hid (rd_lit (w := w8.alloc (.cells #[.int .i64 (-1), .int .i64 1001, .int .i64 1] 3)) (k := w8.heap.size) (n := 3) (l := ([(-1), 1001, 1] : List Int)) (enc := inV) (heap_new (by first | rfl | simp)) inV_len rfl (by simp [maxLen]) rfl)
      have hgs : g < w8.heap.size := by have := C8.out.lt; simpa using this
      refine (among_any g (K + 18) _ 3 3 _ _ (Cq.out.le (by omega)) (by omega) Aq.out (by omega) (by omega) (fun a ha => by injection ha with ha; subst ha; first | omega | (simp; omega) | (simp at hgs ⊢; omega))).mono ?_
      rintro e w9 ⟨⟨t, rfl, hx⟩, hc, hg⟩
      have Xt := Lib.hid (mem_bd (lo := -1) (hi := 1001) hx (by decide))
      have C9 := Lib.hid hc
      have G9 := Lib.hid (grown_trans Gq.out hg)
      have R9 := Lib.hid (Rq.out.cur hg hgw)
      have B9 := Lib.hid (Bq.out.cur hg hgw)
      clear hx hc hg hgs Cq Gq Aq C8 G8 Rq R8 Bq B8
      obtain ⟨⟨q09, q19, q29, q39, q49, q59, q69⟩, k09, k19, k29, k39, k49, k59, k69⟩ := bx_cells B9.out
      obtain ⟨bx0, gx0⟩ := bx_set4 B9.out (t)
      have BA := Lib.hid bx0
      have CA := Lib.hid (C9.out.grown gx0 (fun k hk => by injection hk with hk; omega))
      have GA := Lib.hid (grown_row G9.out gx0 (fun k hk => by injection hk with hk; omega))
      have RA := Lib.hid (R9.out.grown gx0 (.inr (by simp [blockOf]; omega)))
      clear bx0 gx0 C9 G9 R9 B9
      obtain ⟨⟨q0A, q1A, q2A, q3A, q4A, q5A, q6A⟩, k0A, k1A, k2A, k3A, k4A, k5A, k6A⟩ := bx_cells BA.out
      obtain ⟨⟨r0, r1, r2, r3, r4, r5, r6⟩, z0, z1, z2, z3, z4, z5, z6⟩ := bx_cells RA.out
      obtain ⟨y0, g0⟩ := bx_set0 RA.out (1)
      obtain ⟨y1, g1⟩ := bx_set1 y0 (h)
      obtain ⟨y2, g2⟩ := bx_set2 y1 (⟨#[]⟩)
      obtain ⟨y3, g3⟩ := bx_set3 y2 (0)
      obtain ⟨y4, g4⟩ := bx_set4 y3 (t)
      obtain ⟨y5, g5⟩ := bx_set5 y4 (0)
      obtain ⟨y6, g6⟩ := bx_set6 y5 (false)
      have CF := Lib.hid ((CA.out.grown (grown_trans (grown_trans (grown_trans (grown_trans (grown_trans (grown_trans g0 g1) g2) g3) g4) g5) g6) (fun k hk => by injection hk with hk; omega)).le (K' := K + 30) (by omega))
      have GF := Lib.hid (grown_row GA.out (grown_trans (grown_trans (grown_trans (grown_trans (grown_trans (grown_trans g0 g1) g2) g3) g4) g5) g6) (fun k hk => by injection hk with hk; omega))
      obtain ⟨⟨v0, v1, v2, v3, v4, v5, v6⟩, -⟩ := bx_cells y6
      clear y0 y1 y2 y3 y4 y5 y6 g0 g1 g2 g3 g4 g5 g6
      go_wp2
      exact bodyPost_ret (v := .agg #[.int .i64 (1), .string (h), .string (⟨#[]⟩), .int .i64 (0), .int .i64 (t), .int .i64 (0), .bool (false)]) (by simp [results, Tryz.results26, go_sem, v0, v1, v2, v3, v4, v5, v6]) rfl ⟨⟨⟨1, h, ⟨#[]⟩, 0, t, 0, false⟩, rfl, ⟨(show (h : ByteArray).size ≤ 24 from Nat.le_trans h_s (by omega)), (show (⟨#[]⟩ : ByteArray).size ≤ 24 from by decide)⟩⟩, CF.out, GF.out⟩
    have es3 : (s == 3) = false := by simp; omega
    by_cases hs4 : s = 4
    · subst hs4
      obtain ⟨⟨q08, q18, q28, q38, q48, q58, q68⟩, k08, k18, k28, k38, k48, k58, k68⟩ := bx_cells B8.out
      obtain ⟨bx0, gx0⟩ := bx_set6 B8.out (true)
      have BA := Lib.hid bx0
      have CA := Lib.hid (C8.out.grown gx0 (fun k hk => by injection hk with hk; omega))
      have GA := Lib.hid (grown_row G8.out gx0 (fun k hk => by injection hk with hk; omega))
      have RA := Lib.hid (R8.out.grown gx0 (.inr (by simp [blockOf]; omega)))
      clear bx0 gx0 C8 G8 R8 B8
      obtain ⟨⟨q0A, q1A, q2A, q3A, q4A, q5A, q6A⟩, k0A, k1A, k2A, k3A, k4A, k5A, k6A⟩ := bx_cells BA.out
      obtain ⟨⟨r0, r1, r2, r3, r4, r5, r6⟩, z0, z1, z2, z3, z4, z5, z6⟩ := bx_cells RA.out
      obtain ⟨y0, g0⟩ := bx_set0 RA.out (1)
      obtain ⟨y1, g1⟩ := bx_set1 y0 (h)
      obtain ⟨y2, g2⟩ := bx_set2 y1 (⟨#[]⟩)
      obtain ⟨y3, g3⟩ := bx_set3 y2 (0)
      obtain ⟨y4, g4⟩ := bx_set4 y3 (0)
      obtain ⟨y5, g5⟩ := bx_set5 y4 (0)
      obtain ⟨y6, g6⟩ := bx_set6 y5 (true)
      have CF := Lib.hid ((CA.out.grown (grown_trans (grown_trans (grown_trans (grown_trans (grown_trans (grown_trans g0 g1) g2) g3) g4) g5) g6) (fun k hk => by injection hk with hk; omega)).le (K' := K + 30) (by omega))
      have GF := Lib.hid (grown_row GA.out (grown_trans (grown_trans (grown_trans (grown_trans (grown_trans (grown_trans g0 g1) g2) g3) g4) g5) g6) (fun k hk => by injection hk with hk; omega))
      obtain ⟨⟨v0, v1, v2, v3, v4, v5, v6⟩, -⟩ := bx_cells y6
      clear y0 y1 y2 y3 y4 y5 y6 g0 g1 g2 g3 g4 g5 g6
      go_wp2
      exact bodyPost_ret (v := .agg #[.int .i64 (1), .string (h), .string (⟨#[]⟩), .int .i64 (0), .int .i64 (0), .int .i64 (0), .bool (true)]) (by simp [results, Tryz.results26, go_sem, v0, v1, v2, v3, v4, v5, v6]) rfl ⟨⟨⟨1, h, ⟨#[]⟩, 0, 0, 0, true⟩, rfl, ⟨(show (h : ByteArray).size ≤ 24 from Nat.le_trans h_s (by omega)), (show (⟨#[]⟩ : ByteArray).size ≤ 24 from by decide)⟩⟩, CF.out, GF.out⟩
    have es4 : (s == 4) = false := by simp; omega
    obtain ⟨⟨q08, q18, q28, q38, q48, q58, q68⟩, k08, k18, k28, k38, k48, k58, k68⟩ := bx_cells B8.out
    obtain ⟨⟨r0, r1, r2, r3, r4, r5, r6⟩, z0, z1, z2, z3, z4, z5, z6⟩ := bx_cells R8.out
    obtain ⟨y0, g0⟩ := bx_set0 R8.out (1)
    obtain ⟨y1, g1⟩ := bx_set1 y0 (h)
    obtain ⟨y2, g2⟩ := bx_set2 y1 (⟨#[]⟩)
    obtain ⟨y3, g3⟩ := bx_set3 y2 (0)
    obtain ⟨y4, g4⟩ := bx_set4 y3 (0)
    obtain ⟨y5, g5⟩ := bx_set5 y4 (0)
    obtain ⟨y6, g6⟩ := bx_set6 y5 (false)
    have CF := Lib.hid ((C8.out.grown (grown_trans (grown_trans (grown_trans (grown_trans (grown_trans (grown_trans g0 g1) g2) g3) g4) g5) g6) (fun k hk => by injection hk with hk; omega)).le (K' := K + 30) (by omega))
    have GF := Lib.hid (grown_row G8.out (grown_trans (grown_trans (grown_trans (grown_trans (grown_trans (grown_trans g0 g1) g2) g3) g4) g5) g6) (fun k hk => by injection hk with hk; omega))
    obtain ⟨⟨v0, v1, v2, v3, v4, v5, v6⟩, -⟩ := bx_cells y6
    clear y0 y1 y2 y3 y4 y5 y6 g0 g1 g2 g3 g4 g5 g6
    go_wp2
    exact bodyPost_ret (v := .agg #[.int .i64 (1), .string (h), .string (⟨#[]⟩), .int .i64 (0), .int .i64 (0), .int .i64 (0), .bool (false)]) (by simp [results, Tryz.results26, go_sem, v0, v1, v2, v3, v4, v5, v6]) rfl ⟨⟨⟨1, h, ⟨#[]⟩, 0, 0, 0, false⟩, rfl, ⟨(show (h : ByteArray).size ≤ 24 from Nat.le_trans h_s (by omega)), (show (⟨#[]⟩ : ByteArray).size ≤ 24 from by decide)⟩⟩, CF.out, GF.out⟩
  by_cases hx5 : x = 5
  · subst hx5
    have B5 := Lib.hid ((own_one (enc := enV) w3 #[.int .i64 (6), .string h, .string ⟨#[]⟩, .int .i64 0, .int .i64 0, .int .i64 0, .bool false] 27 (⟨6, h, ⟨#[]⟩, 0, 0, 0, false⟩ : EN) rfl rfl).base_le (b := w.heap.size) hw3)
    have C5 := Lib.hid (C3.out.below (below_alloc (.cells #[.int .i64 (6), .string h, .string ⟨#[]⟩, .int .i64 0, .int .i64 0, .int .i64 0, .bool false] 27)))
    have G5 := Lib.hid (grown_below G3.out (below_alloc (.cells #[.int .i64 (6), .string h, .string ⟨#[]⟩, .int .i64 0, .int .i64 0, .int .i64 0, .bool false] 27)))
    have R5 := Lib.hid (R3.out.below (below_alloc (.cells #[.int .i64 (6), .string h, .string ⟨#[]⟩, .int .i64 0, .int .i64 0, .int .i64 0, .bool false] 27)))
    clear C3 G3 R3
    go_wp2_with fail
    refine (pick_any g (K + 16) 60 _ (C5.out.le (by omega)) (by omega) (by omega) (by omega)).mono ?_
    rintro e w8 ⟨⟨s, rfl, s_0, s_1⟩, hc, hg⟩
    have C8 := Lib.hid hc
    have G8 := Lib.hid (grown_trans G5.out hg)
    have R8 := Lib.hid (R5.out.cur hg hgw)
    have B8 := Lib.hid (B5.out.cur hg hgw)
    clear hc hg C5 G5 R5 B5
    by_cases hs0 : s = 0
    · subst hs0
      have Cq := Lib.hid (C8.out.below (below_alloc (.cells #[.int .i64 0, .int .i64 7, .int .i64 1, .int .i64 4] 3)))
      have Gq := Lib.hid (grown_below G8.out (below_alloc (.cells #[.int .i64 0, .int .i64 7, .int .i64 1, .int .i64 4] 3)))
      have Rq := Lib.hid (R8.out.below (below_alloc (.cells #[.int .i64 0, .int .i64 7, .int .i64 1, .int .i64 4] 3)))
      have Bq := Lib.hid (B8.out.below (below_alloc (.cells #[.int .i64 0, .int .i64 7, .int .i64 1, .int .i64 4] 3)))
      go_wp2_with fail
      have Aq := Lib.hid (rd_lit (w := w8.alloc (.cells #[.int .i64 0, .int .i64 7, .int .i64 1, .int .i64 4] 3)) (k := w8.heap.size) (n := 4) (l := ([0, 7, 1, 4] : List Int)) (enc := inV) (heap_new (by first | rfl | simp)) inV_len rfl (by simp [maxLen]) rfl)
      have hgs : g < w8.heap.size := by have := C8.out.lt; simpa using this
      refine (among_any g (K + 18) _ 4 4 _ _ (Cq.out.le (by omega)) (by omega) Aq.out (by omega) (by omega) (fun a ha => by injection ha with ha; subst ha; first | omega | (simp; omega) | (simp at hgs ⊢; omega))).mono ?_
      rintro e w9 ⟨⟨t, rfl, hx⟩, hc, hg⟩
      have Xt := Lib.hid (mem_bd (lo := 0) (hi := 7) hx (by decide))
      have C9 := Lib.hid hc
      have G9 := Lib.hid (grown_trans Gq.out hg)
      have R9 := Lib.hid (Rq.out.cur hg hgw)
      have B9 := Lib.hid (Bq.out.cur hg hgw)
      clear hx hc hg hgs Cq Gq Aq C8 G8 Rq R8 Bq B8
      obtain ⟨⟨q09, q19, q29, q39, q49, q59, q69⟩, k09, k19, k29, k39, k49, k59, k69⟩ := bx_cells B9.out
      obtain ⟨bx0, gx0⟩ := bx_set0 B9.out (t)
      have BA := Lib.hid bx0
      have CA := Lib.hid (C9.out.grown gx0 (fun k hk => by injection hk with hk; omega))
      have GA := Lib.hid (grown_row G9.out gx0 (fun k hk => by injection hk with hk; omega))
      have RA := Lib.hid (R9.out.grown gx0 (.inr (by simp [blockOf]; omega)))
      clear bx0 gx0 C9 G9 R9 B9
      obtain ⟨⟨q0A, q1A, q2A, q3A, q4A, q5A, q6A⟩, k0A, k1A, k2A, k3A, k4A, k5A, k6A⟩ := bx_cells BA.out
      obtain ⟨⟨r0, r1, r2, r3, r4, r5, r6⟩, z0, z1, z2, z3, z4, z5, z6⟩ := bx_cells RA.out
      obtain ⟨y0, g0⟩ := bx_set0 RA.out (t)
      obtain ⟨y1, g1⟩ := bx_set1 y0 (h)
      obtain ⟨y2, g2⟩ := bx_set2 y1 (⟨#[]⟩)
      obtain ⟨y3, g3⟩ := bx_set3 y2 (0)
      obtain ⟨y4, g4⟩ := bx_set4 y3 (0)
      obtain ⟨y5, g5⟩ := bx_set5 y4 (0)
      obtain ⟨y6, g6⟩ := bx_set6 y5 (false)
      have CF := Lib.hid ((CA.out.grown (grown_trans (grown_trans (grown_trans (grown_trans (grown_trans (grown_trans g0 g1) g2) g3) g4) g5) g6) (fun k hk => by injection hk with hk; omega)).le (K' := K + 30) (by omega))
      have GF := Lib.hid (grown_row GA.out (grown_trans (grown_trans (grown_trans (grown_trans (grown_trans (grown_trans g0 g1) g2) g3) g4) g5) g6) (fun k hk => by injection hk with hk; omega))
      obtain ⟨⟨v0, v1, v2, v3, v4, v5, v6⟩, -⟩ := bx_cells y6
      clear y0 y1 y2 y3 y4 y5 y6 g0 g1 g2 g3 g4 g5 g6
      go_wp2
      exact bodyPost_ret (v := .agg #[.int .i64 (t), .string (h), .string (⟨#[]⟩), .int .i64 (0), .int .i64 (0), .int .i64 (0), .bool (false)]) (by simp [results, Tryz.results26, go_sem, v0, v1, v2, v3, v4, v5, v6]) rfl ⟨⟨⟨t, h, ⟨#[]⟩, 0, 0, 0, false⟩, rfl, ⟨(show (h : ByteArray).size ≤ 24 from Nat.le_trans h_s (by omega)), (show (⟨#[]⟩ : ByteArray).size ≤ 24 from by decide)⟩⟩, CF.out, GF.out⟩
    have es0 : (s == 0) = false := by simp; omega
    by_cases hs1 : s = 1
    · subst hs1
      have Cq := Lib.hid (C8.out.below (below_alloc (.cells #[.string ⟨#[]⟩, .string ⟨#[65]⟩, .string ⟨#[97, 98, 99, 100, 101, 102, 103, 104, 105, 106, 107]⟩] 9)))
      have Gq := Lib.hid (grown_below G8.out (below_alloc (.cells #[.string ⟨#[]⟩, .string ⟨#[65]⟩, .string ⟨#[97, 98, 99, 100, 101, 102, 103, 104, 105, 106, 107]⟩] 9)))
      have Rq := Lib.hid (R8.out.below (below_alloc (.cells #[.string ⟨#[]⟩, .string ⟨#[65]⟩, .string ⟨#[97, 98, 99, 100, 101, 102, 103, 104, 105, 106, 107]⟩] 9)))
      have Bq := Lib.hid (B8.out.below (below_alloc (.cells #[.string ⟨#[]⟩, .string ⟨#[65]⟩, .string ⟨#[97, 98, 99, 100, 101, 102, 103, 104, 105, 106, 107]⟩] 9)))
      go_wp2_with fail
      have Aq := Lib.hid (rd_lit (w := w8.alloc (.cells #[.string ⟨#[]⟩, .string ⟨#[65]⟩, .string ⟨#[97, 98, 99, 100, 101, 102, 103, 104, 105, 106, 107]⟩] 9)) (k := w8.heap.size) (n := 3) (l := ([⟨#[]⟩, ⟨#[65]⟩, ⟨#[97, 98, 99, 100, 101, 102, 103, 104, 105, 106, 107]⟩] : List ByteArray)) (enc := stV) (heap_new (by first | rfl | simp)) stV_len rfl (by simp [maxLen]) rfl)
      have hgs : g < w8.heap.size := by have := C8.out.lt; simpa using this
      refine (of_any g (K + 18) _ 3 3 _ _ (Cq.out.le (by omega)) (by omega) Aq.out (by omega) (by omega) (fun a ha => by injection ha with ha; subst ha; first | omega | (simp; omega) | (simp at hgs ⊢; omega))).mono ?_
      rintro e w9 ⟨⟨t, rfl, hx⟩, hc, hg⟩
      have Xt := Lib.hid (of_sz (m := 24) hx (by decide))
      have C9 := Lib.hid hc
      have G9 := Lib.hid (grown_trans Gq.out hg)
      have R9 := Lib.hid (Rq.out.cur hg hgw)
      have B9 := Lib.hid (Bq.out.cur hg hgw)
      clear hx hc hg hgs Cq Gq Aq C8 G8 Rq R8 Bq B8
      obtain ⟨⟨q09, q19, q29, q39, q49, q59, q69⟩, k09, k19, k29, k39, k49, k59, k69⟩ := bx_cells B9.out
      obtain ⟨bx0, gx0⟩ := bx_set1 B9.out (t)
      have BA := Lib.hid bx0
      have CA := Lib.hid (C9.out.grown gx0 (fun k hk => by injection hk with hk; omega))
      have GA := Lib.hid (grown_row G9.out gx0 (fun k hk => by injection hk with hk; omega))
      have RA := Lib.hid (R9.out.grown gx0 (.inr (by simp [blockOf]; omega)))
      clear bx0 gx0 C9 G9 R9 B9
      obtain ⟨⟨q0A, q1A, q2A, q3A, q4A, q5A, q6A⟩, k0A, k1A, k2A, k3A, k4A, k5A, k6A⟩ := bx_cells BA.out
      obtain ⟨⟨r0, r1, r2, r3, r4, r5, r6⟩, z0, z1, z2, z3, z4, z5, z6⟩ := bx_cells RA.out
      obtain ⟨y0, g0⟩ := bx_set0 RA.out (6)
      obtain ⟨y1, g1⟩ := bx_set1 y0 (t)
      obtain ⟨y2, g2⟩ := bx_set2 y1 (⟨#[]⟩)
      obtain ⟨y3, g3⟩ := bx_set3 y2 (0)
      obtain ⟨y4, g4⟩ := bx_set4 y3 (0)
      obtain ⟨y5, g5⟩ := bx_set5 y4 (0)
      obtain ⟨y6, g6⟩ := bx_set6 y5 (false)
      have CF := Lib.hid ((CA.out.grown (grown_trans (grown_trans (grown_trans (grown_trans (grown_trans (grown_trans g0 g1) g2) g3) g4) g5) g6) (fun k hk => by injection hk with hk; omega)).le (K' := K + 30) (by omega))
      have GF := Lib.hid (grown_row GA.out (grown_trans (grown_trans (grown_trans (grown_trans (grown_trans (grown_trans g0 g1) g2) g3) g4) g5) g6) (fun k hk => by injection hk with hk; omega))
      obtain ⟨⟨v0, v1, v2, v3, v4, v5, v6⟩, -⟩ := bx_cells y6
      clear y0 y1 y2 y3 y4 y5 y6 g0 g1 g2 g3 g4 g5 g6
      go_wp2
      exact bodyPost_ret (v := .agg #[.int .i64 (6), .string (t), .string (⟨#[]⟩), .int .i64 (0), .int .i64 (0), .int .i64 (0), .bool (false)]) (by simp [results, Tryz.results26, go_sem, v0, v1, v2, v3, v4, v5, v6]) rfl ⟨⟨⟨6, t, ⟨#[]⟩, 0, 0, 0, false⟩, rfl, ⟨(show (t : ByteArray).size ≤ 24 from Xt.out), (show (⟨#[]⟩ : ByteArray).size ≤ 24 from by decide)⟩⟩, CF.out, GF.out⟩
    have es1 : (s == 1) = false := by simp; omega
    by_cases hs2 : s = 2
    · subst hs2
      have Cq := Lib.hid (C8.out.below (below_alloc (.cells #[.string ⟨#[]⟩, .string ⟨#[65, 32, 98]⟩] 9)))
      have Gq := Lib.hid (grown_below G8.out (below_alloc (.cells #[.string ⟨#[]⟩, .string ⟨#[65, 32, 98]⟩] 9)))
      have Rq := Lib.hid (R8.out.below (below_alloc (.cells #[.string ⟨#[]⟩, .string ⟨#[65, 32, 98]⟩] 9)))
      have Bq := Lib.hid (B8.out.below (below_alloc (.cells #[.string ⟨#[]⟩, .string ⟨#[65, 32, 98]⟩] 9)))
      go_wp2_with fail
      have Aq := Lib.hid (rd_lit (w := w8.alloc (.cells #[.string ⟨#[]⟩, .string ⟨#[65, 32, 98]⟩] 9)) (k := w8.heap.size) (n := 2) (l := ([⟨#[]⟩, ⟨#[65, 32, 98]⟩] : List ByteArray)) (enc := stV) (heap_new (by first | rfl | simp)) stV_len rfl (by simp [maxLen]) rfl)
      have hgs : g < w8.heap.size := by have := C8.out.lt; simpa using this
      refine (of_any g (K + 18) _ 2 2 _ _ (Cq.out.le (by omega)) (by omega) Aq.out (by omega) (by omega) (fun a ha => by injection ha with ha; subst ha; first | omega | (simp; omega) | (simp at hgs ⊢; omega))).mono ?_
      rintro e w9 ⟨⟨t, rfl, hx⟩, hc, hg⟩
      have Xt := Lib.hid (of_sz (m := 24) hx (by decide))
      have C9 := Lib.hid hc
      have G9 := Lib.hid (grown_trans Gq.out hg)
      have R9 := Lib.hid (Rq.out.cur hg hgw)
      have B9 := Lib.hid (Bq.out.cur hg hgw)
      clear hx hc hg hgs Cq Gq Aq C8 G8 Rq R8 Bq B8
      obtain ⟨⟨q09, q19, q29, q39, q49, q59, q69⟩, k09, k19, k29, k39, k49, k59, k69⟩ := bx_cells B9.out
      obtain ⟨bx0, gx0⟩ := bx_set2 B9.out (t)
      have BA := Lib.hid bx0
      have CA := Lib.hid (C9.out.grown gx0 (fun k hk => by injection hk with hk; omega))
      have GA := Lib.hid (grown_row G9.out gx0 (fun k hk => by injection hk with hk; omega))
      have RA := Lib.hid (R9.out.grown gx0 (.inr (by simp [blockOf]; omega)))
      clear bx0 gx0 C9 G9 R9 B9
      obtain ⟨⟨q0A, q1A, q2A, q3A, q4A, q5A, q6A⟩, k0A, k1A, k2A, k3A, k4A, k5A, k6A⟩ := bx_cells BA.out
      obtain ⟨⟨r0, r1, r2, r3, r4, r5, r6⟩, z0, z1, z2, z3, z4, z5, z6⟩ := bx_cells RA.out
      obtain ⟨y0, g0⟩ := bx_set0 RA.out (6)
      obtain ⟨y1, g1⟩ := bx_set1 y0 (h)
      obtain ⟨y2, g2⟩ := bx_set2 y1 (t)
      obtain ⟨y3, g3⟩ := bx_set3 y2 (0)
      obtain ⟨y4, g4⟩ := bx_set4 y3 (0)
      obtain ⟨y5, g5⟩ := bx_set5 y4 (0)
      obtain ⟨y6, g6⟩ := bx_set6 y5 (false)
      have CF := Lib.hid ((CA.out.grown (grown_trans (grown_trans (grown_trans (grown_trans (grown_trans (grown_trans g0 g1) g2) g3) g4) g5) g6) (fun k hk => by injection hk with hk; omega)).le (K' := K + 30) (by omega))
      have GF := Lib.hid (grown_row GA.out (grown_trans (grown_trans (grown_trans (grown_trans (grown_trans (grown_trans g0 g1) g2) g3) g4) g5) g6) (fun k hk => by injection hk with hk; omega))
      obtain ⟨⟨v0, v1, v2, v3, v4, v5, v6⟩, -⟩ := bx_cells y6
      clear y0 y1 y2 y3 y4 y5 y6 g0 g1 g2 g3 g4 g5 g6
      go_wp2
      exact bodyPost_ret (v := .agg #[.int .i64 (6), .string (h), .string (t), .int .i64 (0), .int .i64 (0), .int .i64 (0), .bool (false)]) (by simp [results, Tryz.results26, go_sem, v0, v1, v2, v3, v4, v5, v6]) rfl ⟨⟨⟨6, h, t, 0, 0, 0, false⟩, rfl, ⟨(show (h : ByteArray).size ≤ 24 from Nat.le_trans h_s (by omega)), (show (t : ByteArray).size ≤ 24 from Xt.out)⟩⟩, CF.out, GF.out⟩
    have es2 : (s == 2) = false := by simp; omega
    by_cases hs3 : s = 3
    · subst hs3
      have Cq := Lib.hid (C8.out.below (below_alloc (.cells #[.int .i64 (-1), .int .i64 1001, .int .i64 1] 3)))
      have Gq := Lib.hid (grown_below G8.out (below_alloc (.cells #[.int .i64 (-1), .int .i64 1001, .int .i64 1] 3)))
      have Rq := Lib.hid (R8.out.below (below_alloc (.cells #[.int .i64 (-1), .int .i64 1001, .int .i64 1] 3)))
      have Bq := Lib.hid (B8.out.below (below_alloc (.cells #[.int .i64 (-1), .int .i64 1001, .int .i64 1] 3)))
      go_wp2_with fail
      have Aq := Lib.hid (rd_lit (w := w8.alloc (.cells #[.int .i64 (-1), .int .i64 1001, .int .i64 1] 3)) (k := w8.heap.size) (n := 3) (l := ([(-1), 1001, 1] : List Int)) (enc := inV) (heap_new (by first | rfl | simp)) inV_len rfl (by simp [maxLen]) rfl)
      have hgs : g < w8.heap.size := by have := C8.out.lt; simpa using this
      refine (among_any g (K + 18) _ 3 3 _ _ (Cq.out.le (by omega)) (by omega) Aq.out (by omega) (by omega) (fun a ha => by injection ha with ha; subst ha; first | omega | (simp; omega) | (simp at hgs ⊢; omega))).mono ?_
      rintro e w9 ⟨⟨t, rfl, hx⟩, hc, hg⟩
      have Xt := Lib.hid (mem_bd (lo := -1) (hi := 1001) hx (by decide))
      have C9 := Lib.hid hc
      have G9 := Lib.hid (grown_trans Gq.out hg)
      have R9 := Lib.hid (Rq.out.cur hg hgw)
      have B9 := Lib.hid (Bq.out.cur hg hgw)
      clear hx hc hg hgs Cq Gq Aq C8 G8 Rq R8 Bq B8
      obtain ⟨⟨q09, q19, q29, q39, q49, q59, q69⟩, k09, k19, k29, k39, k49, k59, k69⟩ := bx_cells B9.out
      obtain ⟨bx0, gx0⟩ := bx_set4 B9.out (t)
      have BA := Lib.hid bx0
      have CA := Lib.hid (C9.out.grown gx0 (fun k hk => by injection hk with hk; omega))
      have GA := Lib.hid (grown_row G9.out gx0 (fun k hk => by injection hk with hk; omega))
      have RA := Lib.hid (R9.out.grown gx0 (.inr (by simp [blockOf]; omega)))
      clear bx0 gx0 C9 G9 R9 B9
      obtain ⟨⟨q0A, q1A, q2A, q3A, q4A, q5A, q6A⟩, k0A, k1A, k2A, k3A, k4A, k5A, k6A⟩ := bx_cells BA.out
      obtain ⟨⟨r0, r1, r2, r3, r4, r5, r6⟩, z0, z1, z2, z3, z4, z5, z6⟩ := bx_cells RA.out
      obtain ⟨y0, g0⟩ := bx_set0 RA.out (6)
      obtain ⟨y1, g1⟩ := bx_set1 y0 (h)
      obtain ⟨y2, g2⟩ := bx_set2 y1 (⟨#[]⟩)
      obtain ⟨y3, g3⟩ := bx_set3 y2 (0)
      obtain ⟨y4, g4⟩ := bx_set4 y3 (t)
      obtain ⟨y5, g5⟩ := bx_set5 y4 (0)
      obtain ⟨y6, g6⟩ := bx_set6 y5 (false)
      have CF := Lib.hid ((CA.out.grown (grown_trans (grown_trans (grown_trans (grown_trans (grown_trans (grown_trans g0 g1) g2) g3) g4) g5) g6) (fun k hk => by injection hk with hk; omega)).le (K' := K + 30) (by omega))
      have GF := Lib.hid (grown_row GA.out (grown_trans (grown_trans (grown_trans (grown_trans (grown_trans (grown_trans g0 g1) g2) g3) g4) g5) g6) (fun k hk => by injection hk with hk; omega))
      obtain ⟨⟨v0, v1, v2, v3, v4, v5, v6⟩, -⟩ := bx_cells y6
      clear y0 y1 y2 y3 y4 y5 y6 g0 g1 g2 g3 g4 g5 g6
      go_wp2
      exact bodyPost_ret (v := .agg #[.int .i64 (6), .string (h), .string (⟨#[]⟩), .int .i64 (0), .int .i64 (t), .int .i64 (0), .bool (false)]) (by simp [results, Tryz.results26, go_sem, v0, v1, v2, v3, v4, v5, v6]) rfl ⟨⟨⟨6, h, ⟨#[]⟩, 0, t, 0, false⟩, rfl, ⟨(show (h : ByteArray).size ≤ 24 from Nat.le_trans h_s (by omega)), (show (⟨#[]⟩ : ByteArray).size ≤ 24 from by decide)⟩⟩, CF.out, GF.out⟩
    have es3 : (s == 3) = false := by simp; omega
    by_cases hs4 : s = 4
    · subst hs4
      obtain ⟨⟨q08, q18, q28, q38, q48, q58, q68⟩, k08, k18, k28, k38, k48, k58, k68⟩ := bx_cells B8.out
      obtain ⟨bx0, gx0⟩ := bx_set6 B8.out (true)
      have BA := Lib.hid bx0
      have CA := Lib.hid (C8.out.grown gx0 (fun k hk => by injection hk with hk; omega))
      have GA := Lib.hid (grown_row G8.out gx0 (fun k hk => by injection hk with hk; omega))
      have RA := Lib.hid (R8.out.grown gx0 (.inr (by simp [blockOf]; omega)))
      clear bx0 gx0 C8 G8 R8 B8
      obtain ⟨⟨q0A, q1A, q2A, q3A, q4A, q5A, q6A⟩, k0A, k1A, k2A, k3A, k4A, k5A, k6A⟩ := bx_cells BA.out
      obtain ⟨⟨r0, r1, r2, r3, r4, r5, r6⟩, z0, z1, z2, z3, z4, z5, z6⟩ := bx_cells RA.out
      obtain ⟨y0, g0⟩ := bx_set0 RA.out (6)
      obtain ⟨y1, g1⟩ := bx_set1 y0 (h)
      obtain ⟨y2, g2⟩ := bx_set2 y1 (⟨#[]⟩)
      obtain ⟨y3, g3⟩ := bx_set3 y2 (0)
      obtain ⟨y4, g4⟩ := bx_set4 y3 (0)
      obtain ⟨y5, g5⟩ := bx_set5 y4 (0)
      obtain ⟨y6, g6⟩ := bx_set6 y5 (true)
      have CF := Lib.hid ((CA.out.grown (grown_trans (grown_trans (grown_trans (grown_trans (grown_trans (grown_trans g0 g1) g2) g3) g4) g5) g6) (fun k hk => by injection hk with hk; omega)).le (K' := K + 30) (by omega))
      have GF := Lib.hid (grown_row GA.out (grown_trans (grown_trans (grown_trans (grown_trans (grown_trans (grown_trans g0 g1) g2) g3) g4) g5) g6) (fun k hk => by injection hk with hk; omega))
      obtain ⟨⟨v0, v1, v2, v3, v4, v5, v6⟩, -⟩ := bx_cells y6
      clear y0 y1 y2 y3 y4 y5 y6 g0 g1 g2 g3 g4 g5 g6
      go_wp2
      exact bodyPost_ret (v := .agg #[.int .i64 (6), .string (h), .string (⟨#[]⟩), .int .i64 (0), .int .i64 (0), .int .i64 (0), .bool (true)]) (by simp [results, Tryz.results26, go_sem, v0, v1, v2, v3, v4, v5, v6]) rfl ⟨⟨⟨6, h, ⟨#[]⟩, 0, 0, 0, true⟩, rfl, ⟨(show (h : ByteArray).size ≤ 24 from Nat.le_trans h_s (by omega)), (show (⟨#[]⟩ : ByteArray).size ≤ 24 from by decide)⟩⟩, CF.out, GF.out⟩
    have es4 : (s == 4) = false := by simp; omega
    obtain ⟨⟨q08, q18, q28, q38, q48, q58, q68⟩, k08, k18, k28, k38, k48, k58, k68⟩ := bx_cells B8.out
    obtain ⟨⟨r0, r1, r2, r3, r4, r5, r6⟩, z0, z1, z2, z3, z4, z5, z6⟩ := bx_cells R8.out
    obtain ⟨y0, g0⟩ := bx_set0 R8.out (6)
    obtain ⟨y1, g1⟩ := bx_set1 y0 (h)
    obtain ⟨y2, g2⟩ := bx_set2 y1 (⟨#[]⟩)
    obtain ⟨y3, g3⟩ := bx_set3 y2 (0)
    obtain ⟨y4, g4⟩ := bx_set4 y3 (0)
    obtain ⟨y5, g5⟩ := bx_set5 y4 (0)
    obtain ⟨y6, g6⟩ := bx_set6 y5 (false)
    have CF := Lib.hid ((C8.out.grown (grown_trans (grown_trans (grown_trans (grown_trans (grown_trans (grown_trans g0 g1) g2) g3) g4) g5) g6) (fun k hk => by injection hk with hk; omega)).le (K' := K + 30) (by omega))
    have GF := Lib.hid (grown_row G8.out (grown_trans (grown_trans (grown_trans (grown_trans (grown_trans (grown_trans g0 g1) g2) g3) g4) g5) g6) (fun k hk => by injection hk with hk; omega))
    obtain ⟨⟨v0, v1, v2, v3, v4, v5, v6⟩, -⟩ := bx_cells y6
    clear y0 y1 y2 y3 y4 y5 y6 g0 g1 g2 g3 g4 g5 g6
    go_wp2
    exact bodyPost_ret (v := .agg #[.int .i64 (6), .string (h), .string (⟨#[]⟩), .int .i64 (0), .int .i64 (0), .int .i64 (0), .bool (false)]) (by simp [results, Tryz.results26, go_sem, v0, v1, v2, v3, v4, v5, v6]) rfl ⟨⟨⟨6, h, ⟨#[]⟩, 0, 0, 0, false⟩, rfl, ⟨(show (h : ByteArray).size ≤ 24 from Nat.le_trans h_s (by omega)), (show (⟨#[]⟩ : ByteArray).size ≤ 24 from by decide)⟩⟩, CF.out, GF.out⟩
  by_cases hx3 : x = 3
  · subst hx3
    have B5 := Lib.hid ((own_one (enc := enV) w3 #[.int .i64 (4), .string ⟨#[]⟩, .string mo, .int .i64 0, .int .i64 0, .int .i64 0, .bool false] 27 (⟨4, ⟨#[]⟩, mo, 0, 0, 0, false⟩ : EN) rfl rfl).base_le (b := w.heap.size) hw3)
    have C5 := Lib.hid (C3.out.below (below_alloc (.cells #[.int .i64 (4), .string ⟨#[]⟩, .string mo, .int .i64 0, .int .i64 0, .int .i64 0, .bool false] 27)))
    have G5 := Lib.hid (grown_below G3.out (below_alloc (.cells #[.int .i64 (4), .string ⟨#[]⟩, .string mo, .int .i64 0, .int .i64 0, .int .i64 0, .bool false] 27)))
    have R5 := Lib.hid (R3.out.below (below_alloc (.cells #[.int .i64 (4), .string ⟨#[]⟩, .string mo, .int .i64 0, .int .i64 0, .int .i64 0, .bool false] 27)))
    clear C3 G3 R3
    go_wp2_with fail
    refine (one_any g (K + 6) 2 _ (C5.out.le (by omega)) (by omega) (by omega) (by omega)).mono ?_
    rintro e w50 ⟨⟨pa, rfl⟩, hc, hg⟩
    have C50 := Lib.hid hc
    have G50 := Lib.hid (grown_trans G5.out hg)
    have R50 := Lib.hid (R5.out.cur hg hgw)
    have B50 := Lib.hid (B5.out.cur hg hgw)
    clear hc hg C5 G5 R5 B5
    obtain ⟨⟨q050, q150, q250, q350, q450, q550, q650⟩, k050, k150, k250, k350, k450, k550, k650⟩ := bx_cells B50.out
    obtain ⟨bx0, gx0⟩ := bx_set6 B50.out (pa)
    have B51 := Lib.hid bx0
    have C51 := Lib.hid (C50.out.grown gx0 (fun k hk => by injection hk with hk; omega))
    have G51 := Lib.hid (grown_row G50.out gx0 (fun k hk => by injection hk with hk; omega))
    have R51 := Lib.hid (R50.out.grown gx0 (.inr (by simp [blockOf]; omega)))
    clear bx0 gx0 C50 G50 R50 B50
    have Cq := Lib.hid (C51.out.below (below_alloc (.cells #[.int .i64 0, .int .i64 7, .int .i64 1000] 3)))
    have Gq := Lib.hid (grown_below G51.out (below_alloc (.cells #[.int .i64 0, .int .i64 7, .int .i64 1000] 3)))
    have Rq := Lib.hid (R51.out.below (below_alloc (.cells #[.int .i64 0, .int .i64 7, .int .i64 1000] 3)))
    have Bq := Lib.hid (B51.out.below (below_alloc (.cells #[.int .i64 0, .int .i64 7, .int .i64 1000] 3)))
    go_wp2_with fail
    have Aq := Lib.hid (rd_lit (w := (w50.setCell ⟨w3.heap.size, 6, none⟩ (.bool pa)).alloc (.cells #[.int .i64 0, .int .i64 7, .int .i64 1000] 3)) (k := w50.heap.size) (n := 3) (l := ([0, 7, 1000] : List Int)) (enc := inV) (heap_new (by first | rfl | simp)) inV_len rfl (by simp [maxLen]) rfl)
    have hgs : g < w50.heap.size := by have := C51.out.lt; simpa using this
    refine (among_any g (K + 8) _ 3 3 _ _ (Cq.out.le (by omega)) (by omega) Aq.out (by omega) (by omega) (fun a ha => by injection ha with ha; subst ha; first | omega | (simp; omega) | (simp at hgs ⊢; omega))).mono ?_
    rintro e w52 ⟨⟨y, rfl, hx⟩, hc, hg⟩
    have Xy := Lib.hid (mem_bd (lo := 0) (hi := 1000) hx (by decide))
    have C52 := Lib.hid hc
    have G52 := Lib.hid (grown_trans Gq.out hg)
    have R52 := Lib.hid (Rq.out.cur hg hgw)
    have B52 := Lib.hid (Bq.out.cur hg hgw)
    clear hx hc hg hgs Cq Gq Aq C51 G51 Rq R51 Bq B51
    have Cq := Lib.hid (C52.out.below (below_alloc (.cells #[.int .i64 0, .int .i64 3, .int .i64 1000] 3)))
    have Gq := Lib.hid (grown_below G52.out (below_alloc (.cells #[.int .i64 0, .int .i64 3, .int .i64 1000] 3)))
    have Rq := Lib.hid (R52.out.below (below_alloc (.cells #[.int .i64 0, .int .i64 3, .int .i64 1000] 3)))
    have Bq := Lib.hid (B52.out.below (below_alloc (.cells #[.int .i64 0, .int .i64 3, .int .i64 1000] 3)))
    go_wp2_with fail
    have Aq := Lib.hid (rd_lit (w := w52.alloc (.cells #[.int .i64 0, .int .i64 3, .int .i64 1000] 3)) (k := w52.heap.size) (n := 3) (l := ([0, 3, 1000] : List Int)) (enc := inV) (heap_new (by first | rfl | simp)) inV_len rfl (by simp [maxLen]) rfl)
    have hgs : g < w52.heap.size := by have := C52.out.lt; simpa using this
    refine (among_any g (K + 10) _ 3 3 _ _ (Cq.out.le (by omega)) (by omega) Aq.out (by omega) (by omega) (fun a ha => by injection ha with ha; subst ha; first | omega | (simp; omega) | (simp at hgs ⊢; omega))).mono ?_
    rintro e w53 ⟨⟨n, rfl, hx⟩, hc, hg⟩
    have Xn := Lib.hid (mem_bd (lo := 0) (hi := 1000) hx (by decide))
    have C53 := Lib.hid hc
    have G53 := Lib.hid (grown_trans Gq.out hg)
    have R53 := Lib.hid (Rq.out.cur hg hgw)
    have B53 := Lib.hid (Bq.out.cur hg hgw)
    clear hx hc hg hgs Cq Gq Aq C52 G52 Rq R52 Bq B52
    have Cq := Lib.hid (C53.out.below (below_alloc (.cells #[.int .i64 0, .int .i64 0, .int .i64 1, .int .i64 12] 3)))
    have Gq := Lib.hid (grown_below G53.out (below_alloc (.cells #[.int .i64 0, .int .i64 0, .int .i64 1, .int .i64 12] 3)))
    have Rq := Lib.hid (R53.out.below (below_alloc (.cells #[.int .i64 0, .int .i64 0, .int .i64 1, .int .i64 12] 3)))
    have Bq := Lib.hid (B53.out.below (below_alloc (.cells #[.int .i64 0, .int .i64 0, .int .i64 1, .int .i64 12] 3)))
    go_wp2_with fail
    have Aq := Lib.hid (rd_lit (w := w53.alloc (.cells #[.int .i64 0, .int .i64 0, .int .i64 1, .int .i64 12] 3)) (k := w53.heap.size) (n := 4) (l := ([0, 0, 1, 12] : List Int)) (enc := inV) (heap_new (by first | rfl | simp)) inV_len rfl (by simp [maxLen]) rfl)
    have hgs : g < w53.heap.size := by have := C53.out.lt; simpa using this
    refine (among_any g (K + 12) _ 4 4 _ _ (Cq.out.le (by omega)) (by omega) Aq.out (by omega) (by omega) (fun a ha => by injection ha with ha; subst ha; first | omega | (simp; omega) | (simp at hgs ⊢; omega))).mono ?_
    rintro e w54 ⟨⟨a, rfl, hx⟩, hc, hg⟩
    have Xa := Lib.hid (mem_bd (lo := 0) (hi := 12) hx (by decide))
    have C54 := Lib.hid hc
    have G54 := Lib.hid (grown_trans Gq.out hg)
    have R54 := Lib.hid (Rq.out.cur hg hgw)
    have B54 := Lib.hid (Bq.out.cur hg hgw)
    clear hx hc hg hgs Cq Gq Aq C53 G53 Rq R53 Bq B53
    obtain ⟨⟨q054, q154, q254, q354, q454, q554, q654⟩, k054, k154, k254, k354, k454, k554, k654⟩ := bx_cells B54.out
    obtain ⟨bx0, gx0⟩ := bx_set3 B54.out (y)
    obtain ⟨bx1, gx1⟩ := bx_set4 bx0 (n)
    obtain ⟨bx2, gx2⟩ := bx_set5 bx1 (a)
    have B6 := Lib.hid bx2
    have C6 := Lib.hid (C54.out.grown (grown_trans (grown_trans gx0 gx1) gx2) (fun k hk => by injection hk with hk; omega))
    have G6 := Lib.hid (grown_row G54.out (grown_trans (grown_trans gx0 gx1) gx2) (fun k hk => by injection hk with hk; omega))
    have R6 := Lib.hid (R54.out.grown (grown_trans (grown_trans gx0 gx1) gx2) (.inr (by simp [blockOf]; omega)))
    clear bx0 gx0 bx1 gx1 bx2 gx2 C54 G54 R54 B54
    go_wp2_with fail
    refine (pick_any g (K + 16) 60 _ (C6.out.le (by omega)) (by omega) (by omega) (by omega)).mono ?_
    rintro e w8 ⟨⟨s, rfl, s_0, s_1⟩, hc, hg⟩
    have C8 := Lib.hid hc
    have G8 := Lib.hid (grown_trans G6.out hg)
    have R8 := Lib.hid (R6.out.cur hg hgw)
    have B8 := Lib.hid (B6.out.cur hg hgw)
    clear hc hg C6 G6 R6 B6
    by_cases hs0 : s = 0
    · subst hs0
      have Cq := Lib.hid (C8.out.below (below_alloc (.cells #[.int .i64 0, .int .i64 7, .int .i64 1, .int .i64 4] 3)))
      have Gq := Lib.hid (grown_below G8.out (below_alloc (.cells #[.int .i64 0, .int .i64 7, .int .i64 1, .int .i64 4] 3)))
      have Rq := Lib.hid (R8.out.below (below_alloc (.cells #[.int .i64 0, .int .i64 7, .int .i64 1, .int .i64 4] 3)))
      have Bq := Lib.hid (B8.out.below (below_alloc (.cells #[.int .i64 0, .int .i64 7, .int .i64 1, .int .i64 4] 3)))
      go_wp2_with fail
      have Aq := Lib.hid (rd_lit (w := w8.alloc (.cells #[.int .i64 0, .int .i64 7, .int .i64 1, .int .i64 4] 3)) (k := w8.heap.size) (n := 4) (l := ([0, 7, 1, 4] : List Int)) (enc := inV) (heap_new (by first | rfl | simp)) inV_len rfl (by simp [maxLen]) rfl)
      have hgs : g < w8.heap.size := by have := C8.out.lt; simpa using this
      refine (among_any g (K + 18) _ 4 4 _ _ (Cq.out.le (by omega)) (by omega) Aq.out (by omega) (by omega) (fun a ha => by injection ha with ha; subst ha; first | omega | (simp; omega) | (simp at hgs ⊢; omega))).mono ?_
      rintro e w9 ⟨⟨t, rfl, hx⟩, hc, hg⟩
      have Xt := Lib.hid (mem_bd (lo := 0) (hi := 7) hx (by decide))
      have C9 := Lib.hid hc
      have G9 := Lib.hid (grown_trans Gq.out hg)
      have R9 := Lib.hid (Rq.out.cur hg hgw)
      have B9 := Lib.hid (Bq.out.cur hg hgw)
      clear hx hc hg hgs Cq Gq Aq C8 G8 Rq R8 Bq B8
      obtain ⟨⟨q09, q19, q29, q39, q49, q59, q69⟩, k09, k19, k29, k39, k49, k59, k69⟩ := bx_cells B9.out
      obtain ⟨bx0, gx0⟩ := bx_set0 B9.out (t)
      have BA := Lib.hid bx0
      have CA := Lib.hid (C9.out.grown gx0 (fun k hk => by injection hk with hk; omega))
      have GA := Lib.hid (grown_row G9.out gx0 (fun k hk => by injection hk with hk; omega))
      have RA := Lib.hid (R9.out.grown gx0 (.inr (by simp [blockOf]; omega)))
      clear bx0 gx0 C9 G9 R9 B9
      obtain ⟨⟨q0A, q1A, q2A, q3A, q4A, q5A, q6A⟩, k0A, k1A, k2A, k3A, k4A, k5A, k6A⟩ := bx_cells BA.out
      obtain ⟨⟨r0, r1, r2, r3, r4, r5, r6⟩, z0, z1, z2, z3, z4, z5, z6⟩ := bx_cells RA.out
      obtain ⟨y0, g0⟩ := bx_set0 RA.out (t)
      obtain ⟨y1, g1⟩ := bx_set1 y0 (⟨#[]⟩)
      obtain ⟨y2, g2⟩ := bx_set2 y1 (mo)
      obtain ⟨y3, g3⟩ := bx_set3 y2 (y)
      obtain ⟨y4, g4⟩ := bx_set4 y3 (n)
      obtain ⟨y5, g5⟩ := bx_set5 y4 (a)
      obtain ⟨y6, g6⟩ := bx_set6 y5 (pa)
      have CF := Lib.hid ((CA.out.grown (grown_trans (grown_trans (grown_trans (grown_trans (grown_trans (grown_trans g0 g1) g2) g3) g4) g5) g6) (fun k hk => by injection hk with hk; omega)).le (K' := K + 30) (by omega))
      have GF := Lib.hid (grown_row GA.out (grown_trans (grown_trans (grown_trans (grown_trans (grown_trans (grown_trans g0 g1) g2) g3) g4) g5) g6) (fun k hk => by injection hk with hk; omega))
      obtain ⟨⟨v0, v1, v2, v3, v4, v5, v6⟩, -⟩ := bx_cells y6
      clear y0 y1 y2 y3 y4 y5 y6 g0 g1 g2 g3 g4 g5 g6
      go_wp2
      exact bodyPost_ret (v := .agg #[.int .i64 (t), .string (⟨#[]⟩), .string (mo), .int .i64 (y), .int .i64 (n), .int .i64 (a), .bool (pa)]) (by simp [results, Tryz.results26, go_sem, v0, v1, v2, v3, v4, v5, v6]) rfl ⟨⟨⟨t, ⟨#[]⟩, mo, y, n, a, pa⟩, rfl, ⟨(show (⟨#[]⟩ : ByteArray).size ≤ 24 from by decide), (show (mo : ByteArray).size ≤ 24 from Xmo.out)⟩⟩, CF.out, GF.out⟩
    have es0 : (s == 0) = false := by simp; omega
    by_cases hs1 : s = 1
    · subst hs1
      have Cq := Lib.hid (C8.out.below (below_alloc (.cells #[.string ⟨#[]⟩, .string ⟨#[65]⟩, .string ⟨#[97, 98, 99, 100, 101, 102, 103, 104, 105, 106, 107]⟩] 9)))
      have Gq := Lib.hid (grown_below G8.out (below_alloc (.cells #[.string ⟨#[]⟩, .string ⟨#[65]⟩, .string ⟨#[97, 98, 99, 100, 101, 102, 103, 104, 105, 106, 107]⟩] 9)))
      have Rq := Lib.hid (R8.out.below (below_alloc (.cells #[.string ⟨#[]⟩, .string ⟨#[65]⟩, .string ⟨#[97, 98, 99, 100, 101, 102, 103, 104, 105, 106, 107]⟩] 9)))
      have Bq := Lib.hid (B8.out.below (below_alloc (.cells #[.string ⟨#[]⟩, .string ⟨#[65]⟩, .string ⟨#[97, 98, 99, 100, 101, 102, 103, 104, 105, 106, 107]⟩] 9)))
      go_wp2_with fail
      have Aq := Lib.hid (rd_lit (w := w8.alloc (.cells #[.string ⟨#[]⟩, .string ⟨#[65]⟩, .string ⟨#[97, 98, 99, 100, 101, 102, 103, 104, 105, 106, 107]⟩] 9)) (k := w8.heap.size) (n := 3) (l := ([⟨#[]⟩, ⟨#[65]⟩, ⟨#[97, 98, 99, 100, 101, 102, 103, 104, 105, 106, 107]⟩] : List ByteArray)) (enc := stV) (heap_new (by first | rfl | simp)) stV_len rfl (by simp [maxLen]) rfl)
      have hgs : g < w8.heap.size := by have := C8.out.lt; simpa using this
      refine (of_any g (K + 18) _ 3 3 _ _ (Cq.out.le (by omega)) (by omega) Aq.out (by omega) (by omega) (fun a ha => by injection ha with ha; subst ha; first | omega | (simp; omega) | (simp at hgs ⊢; omega))).mono ?_
      rintro e w9 ⟨⟨t, rfl, hx⟩, hc, hg⟩
      have Xt := Lib.hid (of_sz (m := 24) hx (by decide))
      have C9 := Lib.hid hc
      have G9 := Lib.hid (grown_trans Gq.out hg)
      have R9 := Lib.hid (Rq.out.cur hg hgw)
      have B9 := Lib.hid (Bq.out.cur hg hgw)
      clear hx hc hg hgs Cq Gq Aq C8 G8 Rq R8 Bq B8
      obtain ⟨⟨q09, q19, q29, q39, q49, q59, q69⟩, k09, k19, k29, k39, k49, k59, k69⟩ := bx_cells B9.out
      obtain ⟨bx0, gx0⟩ := bx_set1 B9.out (t)
      have BA := Lib.hid bx0
      have CA := Lib.hid (C9.out.grown gx0 (fun k hk => by injection hk with hk; omega))
      have GA := Lib.hid (grown_row G9.out gx0 (fun k hk => by injection hk with hk; omega))
      have RA := Lib.hid (R9.out.grown gx0 (.inr (by simp [blockOf]; omega)))
      clear bx0 gx0 C9 G9 R9 B9
      obtain ⟨⟨q0A, q1A, q2A, q3A, q4A, q5A, q6A⟩, k0A, k1A, k2A, k3A, k4A, k5A, k6A⟩ := bx_cells BA.out
      obtain ⟨⟨r0, r1, r2, r3, r4, r5, r6⟩, z0, z1, z2, z3, z4, z5, z6⟩ := bx_cells RA.out
      obtain ⟨y0, g0⟩ := bx_set0 RA.out (4)
      obtain ⟨y1, g1⟩ := bx_set1 y0 (t)
      obtain ⟨y2, g2⟩ := bx_set2 y1 (mo)
      obtain ⟨y3, g3⟩ := bx_set3 y2 (y)
      obtain ⟨y4, g4⟩ := bx_set4 y3 (n)
      obtain ⟨y5, g5⟩ := bx_set5 y4 (a)
      obtain ⟨y6, g6⟩ := bx_set6 y5 (pa)
      have CF := Lib.hid ((CA.out.grown (grown_trans (grown_trans (grown_trans (grown_trans (grown_trans (grown_trans g0 g1) g2) g3) g4) g5) g6) (fun k hk => by injection hk with hk; omega)).le (K' := K + 30) (by omega))
      have GF := Lib.hid (grown_row GA.out (grown_trans (grown_trans (grown_trans (grown_trans (grown_trans (grown_trans g0 g1) g2) g3) g4) g5) g6) (fun k hk => by injection hk with hk; omega))
      obtain ⟨⟨v0, v1, v2, v3, v4, v5, v6⟩, -⟩ := bx_cells y6
      clear y0 y1 y2 y3 y4 y5 y6 g0 g1 g2 g3 g4 g5 g6
      go_wp2
      exact bodyPost_ret (v := .agg #[.int .i64 (4), .string (t), .string (mo), .int .i64 (y), .int .i64 (n), .int .i64 (a), .bool (pa)]) (by simp [results, Tryz.results26, go_sem, v0, v1, v2, v3, v4, v5, v6]) rfl ⟨⟨⟨4, t, mo, y, n, a, pa⟩, rfl, ⟨(show (t : ByteArray).size ≤ 24 from Xt.out), (show (mo : ByteArray).size ≤ 24 from Xmo.out)⟩⟩, CF.out, GF.out⟩
    have es1 : (s == 1) = false := by simp; omega
    by_cases hs2 : s = 2
    · subst hs2
      have Cq := Lib.hid (C8.out.below (below_alloc (.cells #[.string ⟨#[]⟩, .string ⟨#[65, 32, 98]⟩] 9)))
      have Gq := Lib.hid (grown_below G8.out (below_alloc (.cells #[.string ⟨#[]⟩, .string ⟨#[65, 32, 98]⟩] 9)))
      have Rq := Lib.hid (R8.out.below (below_alloc (.cells #[.string ⟨#[]⟩, .string ⟨#[65, 32, 98]⟩] 9)))
      have Bq := Lib.hid (B8.out.below (below_alloc (.cells #[.string ⟨#[]⟩, .string ⟨#[65, 32, 98]⟩] 9)))
      go_wp2_with fail
      have Aq := Lib.hid (rd_lit (w := w8.alloc (.cells #[.string ⟨#[]⟩, .string ⟨#[65, 32, 98]⟩] 9)) (k := w8.heap.size) (n := 2) (l := ([⟨#[]⟩, ⟨#[65, 32, 98]⟩] : List ByteArray)) (enc := stV) (heap_new (by first | rfl | simp)) stV_len rfl (by simp [maxLen]) rfl)
      have hgs : g < w8.heap.size := by have := C8.out.lt; simpa using this
      refine (of_any g (K + 18) _ 2 2 _ _ (Cq.out.le (by omega)) (by omega) Aq.out (by omega) (by omega) (fun a ha => by injection ha with ha; subst ha; first | omega | (simp; omega) | (simp at hgs ⊢; omega))).mono ?_
      rintro e w9 ⟨⟨t, rfl, hx⟩, hc, hg⟩
      have Xt := Lib.hid (of_sz (m := 24) hx (by decide))
      have C9 := Lib.hid hc
      have G9 := Lib.hid (grown_trans Gq.out hg)
      have R9 := Lib.hid (Rq.out.cur hg hgw)
      have B9 := Lib.hid (Bq.out.cur hg hgw)
      clear hx hc hg hgs Cq Gq Aq C8 G8 Rq R8 Bq B8
      obtain ⟨⟨q09, q19, q29, q39, q49, q59, q69⟩, k09, k19, k29, k39, k49, k59, k69⟩ := bx_cells B9.out
      obtain ⟨bx0, gx0⟩ := bx_set2 B9.out (t)
      have BA := Lib.hid bx0
      have CA := Lib.hid (C9.out.grown gx0 (fun k hk => by injection hk with hk; omega))
      have GA := Lib.hid (grown_row G9.out gx0 (fun k hk => by injection hk with hk; omega))
      have RA := Lib.hid (R9.out.grown gx0 (.inr (by simp [blockOf]; omega)))
      clear bx0 gx0 C9 G9 R9 B9
      obtain ⟨⟨q0A, q1A, q2A, q3A, q4A, q5A, q6A⟩, k0A, k1A, k2A, k3A, k4A, k5A, k6A⟩ := bx_cells BA.out
      obtain ⟨⟨r0, r1, r2, r3, r4, r5, r6⟩, z0, z1, z2, z3, z4, z5, z6⟩ := bx_cells RA.out
      obtain ⟨y0, g0⟩ := bx_set0 RA.out (4)
      obtain ⟨y1, g1⟩ := bx_set1 y0 (⟨#[]⟩)
      obtain ⟨y2, g2⟩ := bx_set2 y1 (t)
      obtain ⟨y3, g3⟩ := bx_set3 y2 (y)
      obtain ⟨y4, g4⟩ := bx_set4 y3 (n)
      obtain ⟨y5, g5⟩ := bx_set5 y4 (a)
      obtain ⟨y6, g6⟩ := bx_set6 y5 (pa)
      have CF := Lib.hid ((CA.out.grown (grown_trans (grown_trans (grown_trans (grown_trans (grown_trans (grown_trans g0 g1) g2) g3) g4) g5) g6) (fun k hk => by injection hk with hk; omega)).le (K' := K + 30) (by omega))
      have GF := Lib.hid (grown_row GA.out (grown_trans (grown_trans (grown_trans (grown_trans (grown_trans (grown_trans g0 g1) g2) g3) g4) g5) g6) (fun k hk => by injection hk with hk; omega))
      obtain ⟨⟨v0, v1, v2, v3, v4, v5, v6⟩, -⟩ := bx_cells y6
      clear y0 y1 y2 y3 y4 y5 y6 g0 g1 g2 g3 g4 g5 g6
      go_wp2
      exact bodyPost_ret (v := .agg #[.int .i64 (4), .string (⟨#[]⟩), .string (t), .int .i64 (y), .int .i64 (n), .int .i64 (a), .bool (pa)]) (by simp [results, Tryz.results26, go_sem, v0, v1, v2, v3, v4, v5, v6]) rfl ⟨⟨⟨4, ⟨#[]⟩, t, y, n, a, pa⟩, rfl, ⟨(show (⟨#[]⟩ : ByteArray).size ≤ 24 from by decide), (show (t : ByteArray).size ≤ 24 from Xt.out)⟩⟩, CF.out, GF.out⟩
    have es2 : (s == 2) = false := by simp; omega
    by_cases hs3 : s = 3
    · subst hs3
      have Cq := Lib.hid (C8.out.below (below_alloc (.cells #[.int .i64 (-1), .int .i64 1001, .int .i64 1] 3)))
      have Gq := Lib.hid (grown_below G8.out (below_alloc (.cells #[.int .i64 (-1), .int .i64 1001, .int .i64 1] 3)))
      have Rq := Lib.hid (R8.out.below (below_alloc (.cells #[.int .i64 (-1), .int .i64 1001, .int .i64 1] 3)))
      have Bq := Lib.hid (B8.out.below (below_alloc (.cells #[.int .i64 (-1), .int .i64 1001, .int .i64 1] 3)))
      go_wp2_with fail
      have Aq := Lib.hid (rd_lit (w := w8.alloc (.cells #[.int .i64 (-1), .int .i64 1001, .int .i64 1] 3)) (k := w8.heap.size) (n := 3) (l := ([(-1), 1001, 1] : List Int)) (enc := inV) (heap_new (by first | rfl | simp)) inV_len rfl (by simp [maxLen]) rfl)
      have hgs : g < w8.heap.size := by have := C8.out.lt; simpa using this
      refine (among_any g (K + 18) _ 3 3 _ _ (Cq.out.le (by omega)) (by omega) Aq.out (by omega) (by omega) (fun a ha => by injection ha with ha; subst ha; first | omega | (simp; omega) | (simp at hgs ⊢; omega))).mono ?_
      rintro e w9 ⟨⟨t, rfl, hx⟩, hc, hg⟩
      have Xt := Lib.hid (mem_bd (lo := -1) (hi := 1001) hx (by decide))
      have C9 := Lib.hid hc
      have G9 := Lib.hid (grown_trans Gq.out hg)
      have R9 := Lib.hid (Rq.out.cur hg hgw)
      have B9 := Lib.hid (Bq.out.cur hg hgw)
      clear hx hc hg hgs Cq Gq Aq C8 G8 Rq R8 Bq B8
      obtain ⟨⟨q09, q19, q29, q39, q49, q59, q69⟩, k09, k19, k29, k39, k49, k59, k69⟩ := bx_cells B9.out
      obtain ⟨bx0, gx0⟩ := bx_set4 B9.out (t)
      have BA := Lib.hid bx0
      have CA := Lib.hid (C9.out.grown gx0 (fun k hk => by injection hk with hk; omega))
      have GA := Lib.hid (grown_row G9.out gx0 (fun k hk => by injection hk with hk; omega))
      have RA := Lib.hid (R9.out.grown gx0 (.inr (by simp [blockOf]; omega)))
      clear bx0 gx0 C9 G9 R9 B9
      obtain ⟨⟨q0A, q1A, q2A, q3A, q4A, q5A, q6A⟩, k0A, k1A, k2A, k3A, k4A, k5A, k6A⟩ := bx_cells BA.out
      obtain ⟨⟨r0, r1, r2, r3, r4, r5, r6⟩, z0, z1, z2, z3, z4, z5, z6⟩ := bx_cells RA.out
      obtain ⟨y0, g0⟩ := bx_set0 RA.out (4)
      obtain ⟨y1, g1⟩ := bx_set1 y0 (⟨#[]⟩)
      obtain ⟨y2, g2⟩ := bx_set2 y1 (mo)
      obtain ⟨y3, g3⟩ := bx_set3 y2 (y)
      obtain ⟨y4, g4⟩ := bx_set4 y3 (t)
      obtain ⟨y5, g5⟩ := bx_set5 y4 (a)
      obtain ⟨y6, g6⟩ := bx_set6 y5 (pa)
      have CF := Lib.hid ((CA.out.grown (grown_trans (grown_trans (grown_trans (grown_trans (grown_trans (grown_trans g0 g1) g2) g3) g4) g5) g6) (fun k hk => by injection hk with hk; omega)).le (K' := K + 30) (by omega))
      have GF := Lib.hid (grown_row GA.out (grown_trans (grown_trans (grown_trans (grown_trans (grown_trans (grown_trans g0 g1) g2) g3) g4) g5) g6) (fun k hk => by injection hk with hk; omega))
      obtain ⟨⟨v0, v1, v2, v3, v4, v5, v6⟩, -⟩ := bx_cells y6
      clear y0 y1 y2 y3 y4 y5 y6 g0 g1 g2 g3 g4 g5 g6
      go_wp2
      exact bodyPost_ret (v := .agg #[.int .i64 (4), .string (⟨#[]⟩), .string (mo), .int .i64 (y), .int .i64 (t), .int .i64 (a), .bool (pa)]) (by simp [results, Tryz.results26, go_sem, v0, v1, v2, v3, v4, v5, v6]) rfl ⟨⟨⟨4, ⟨#[]⟩, mo, y, t, a, pa⟩, rfl, ⟨(show (⟨#[]⟩ : ByteArray).size ≤ 24 from by decide), (show (mo : ByteArray).size ≤ 24 from Xmo.out)⟩⟩, CF.out, GF.out⟩
    have es3 : (s == 3) = false := by simp; omega
    by_cases hs4 : s = 4
    · subst hs4
      obtain ⟨⟨q08, q18, q28, q38, q48, q58, q68⟩, k08, k18, k28, k38, k48, k58, k68⟩ := bx_cells B8.out
      obtain ⟨bx0, gx0⟩ := bx_set6 B8.out (true)
      have BA := Lib.hid bx0
      have CA := Lib.hid (C8.out.grown gx0 (fun k hk => by injection hk with hk; omega))
      have GA := Lib.hid (grown_row G8.out gx0 (fun k hk => by injection hk with hk; omega))
      have RA := Lib.hid (R8.out.grown gx0 (.inr (by simp [blockOf]; omega)))
      clear bx0 gx0 C8 G8 R8 B8
      obtain ⟨⟨q0A, q1A, q2A, q3A, q4A, q5A, q6A⟩, k0A, k1A, k2A, k3A, k4A, k5A, k6A⟩ := bx_cells BA.out
      obtain ⟨⟨r0, r1, r2, r3, r4, r5, r6⟩, z0, z1, z2, z3, z4, z5, z6⟩ := bx_cells RA.out
      obtain ⟨y0, g0⟩ := bx_set0 RA.out (4)
      obtain ⟨y1, g1⟩ := bx_set1 y0 (⟨#[]⟩)
      obtain ⟨y2, g2⟩ := bx_set2 y1 (mo)
      obtain ⟨y3, g3⟩ := bx_set3 y2 (y)
      obtain ⟨y4, g4⟩ := bx_set4 y3 (n)
      obtain ⟨y5, g5⟩ := bx_set5 y4 (a)
      obtain ⟨y6, g6⟩ := bx_set6 y5 (true)
      have CF := Lib.hid ((CA.out.grown (grown_trans (grown_trans (grown_trans (grown_trans (grown_trans (grown_trans g0 g1) g2) g3) g4) g5) g6) (fun k hk => by injection hk with hk; omega)).le (K' := K + 30) (by omega))
      have GF := Lib.hid (grown_row GA.out (grown_trans (grown_trans (grown_trans (grown_trans (grown_trans (grown_trans g0 g1) g2) g3) g4) g5) g6) (fun k hk => by injection hk with hk; omega))
      obtain ⟨⟨v0, v1, v2, v3, v4, v5, v6⟩, -⟩ := bx_cells y6
      clear y0 y1 y2 y3 y4 y5 y6 g0 g1 g2 g3 g4 g5 g6
      go_wp2
      exact bodyPost_ret (v := .agg #[.int .i64 (4), .string (⟨#[]⟩), .string (mo), .int .i64 (y), .int .i64 (n), .int .i64 (a), .bool (true)]) (by simp [results, Tryz.results26, go_sem, v0, v1, v2, v3, v4, v5, v6]) rfl ⟨⟨⟨4, ⟨#[]⟩, mo, y, n, a, true⟩, rfl, ⟨(show (⟨#[]⟩ : ByteArray).size ≤ 24 from by decide), (show (mo : ByteArray).size ≤ 24 from Xmo.out)⟩⟩, CF.out, GF.out⟩
    have es4 : (s == 4) = false := by simp; omega
    obtain ⟨⟨q08, q18, q28, q38, q48, q58, q68⟩, k08, k18, k28, k38, k48, k58, k68⟩ := bx_cells B8.out
    obtain ⟨⟨r0, r1, r2, r3, r4, r5, r6⟩, z0, z1, z2, z3, z4, z5, z6⟩ := bx_cells R8.out
    obtain ⟨y0, g0⟩ := bx_set0 R8.out (4)
    obtain ⟨y1, g1⟩ := bx_set1 y0 (⟨#[]⟩)
    obtain ⟨y2, g2⟩ := bx_set2 y1 (mo)
    obtain ⟨y3, g3⟩ := bx_set3 y2 (y)
    obtain ⟨y4, g4⟩ := bx_set4 y3 (n)
    obtain ⟨y5, g5⟩ := bx_set5 y4 (a)
    obtain ⟨y6, g6⟩ := bx_set6 y5 (pa)
    have CF := Lib.hid ((C8.out.grown (grown_trans (grown_trans (grown_trans (grown_trans (grown_trans (grown_trans g0 g1) g2) g3) g4) g5) g6) (fun k hk => by injection hk with hk; omega)).le (K' := K + 30) (by omega))
    have GF := Lib.hid (grown_row G8.out (grown_trans (grown_trans (grown_trans (grown_trans (grown_trans (grown_trans g0 g1) g2) g3) g4) g5) g6) (fun k hk => by injection hk with hk; omega))
    obtain ⟨⟨v0, v1, v2, v3, v4, v5, v6⟩, -⟩ := bx_cells y6
    clear y0 y1 y2 y3 y4 y5 y6 g0 g1 g2 g3 g4 g5 g6
    go_wp2
    exact bodyPost_ret (v := .agg #[.int .i64 (4), .string (⟨#[]⟩), .string (mo), .int .i64 (y), .int .i64 (n), .int .i64 (a), .bool (pa)]) (by simp [results, Tryz.results26, go_sem, v0, v1, v2, v3, v4, v5, v6]) rfl ⟨⟨⟨4, ⟨#[]⟩, mo, y, n, a, pa⟩, rfl, ⟨(show (⟨#[]⟩ : ByteArray).size ≤ 24 from by decide), (show (mo : ByteArray).size ≤ 24 from Xmo.out)⟩⟩, CF.out, GF.out⟩
  by_cases hx4 : x = 4
  · subst hx4
    have B4 := Lib.hid ((own_one (enc := enV) w3 #[.int .i64 (5), .string h, .string mo, .int .i64 0, .int .i64 0, .int .i64 0, .bool false] 27 (⟨5, h, mo, 0, 0, 0, false⟩ : EN) rfl rfl).base_le (b := w.heap.size) hw3)
    have C4 := Lib.hid (C3.out.below (below_alloc (.cells #[.int .i64 (5), .string h, .string mo, .int .i64 0, .int .i64 0, .int .i64 0, .bool false] 27)))
    have G4 := Lib.hid (grown_below G3.out (below_alloc (.cells #[.int .i64 (5), .string h, .string mo, .int .i64 0, .int .i64 0, .int .i64 0, .bool false] 27)))
    have R4 := Lib.hid (R3.out.below (below_alloc (.cells #[.int .i64 (5), .string h, .string mo, .int .i64 0, .int .i64 0, .int .i64 0, .bool false] 27)))
    clear C3 G3 R3
    go_wp2_with fail
    refine (one_any g (K + 6) 2 _ (C4.out.le (by omega)) (by omega) (by omega) (by omega)).mono ?_
    rintro e w50 ⟨⟨pa, rfl⟩, hc, hg⟩
    have C50 := Lib.hid hc
    have G50 := Lib.hid (grown_trans G4.out hg)
    have R50 := Lib.hid (R4.out.cur hg hgw)
    have B50 := Lib.hid (B4.out.cur hg hgw)
    clear hc hg C4 G4 R4 B4
    obtain ⟨⟨q050, q150, q250, q350, q450, q550, q650⟩, k050, k150, k250, k350, k450, k550, k650⟩ := bx_cells B50.out
    obtain ⟨bx0, gx0⟩ := bx_set6 B50.out (pa)
    have B6 := Lib.hid bx0
    have C6 := Lib.hid (C50.out.grown gx0 (fun k hk => by injection hk with hk; omega))
    have G6 := Lib.hid (grown_row G50.out gx0 (fun k hk => by injection hk with hk; omega))
    have R6 := Lib.hid (R50.out.grown gx0 (.inr (by simp [blockOf]; omega)))
    clear bx0 gx0 C50 G50 R50 B50
    go_wp2_with fail
    refine (pick_any g (K + 16) 60 _ (C6.out.le (by omega)) (by omega) (by omega) (by omega)).mono ?_
    rintro e w8 ⟨⟨s, rfl, s_0, s_1⟩, hc, hg⟩
    have C8 := Lib.hid hc
    have G8 := Lib.hid (grown_trans G6.out hg)
    have R8 := Lib.hid (R6.out.cur hg hgw)
    have B8 := Lib.hid (B6.out.cur hg hgw)
    clear hc hg C6 G6 R6 B6
    by_cases hs0 : s = 0
    · subst hs0
      have Cq := Lib.hid (C8.out.below (below_alloc (.cells #[.int .i64 0, .int .i64 7, .int .i64 1, .int .i64 4] 3)))
      have Gq := Lib.hid (grown_below G8.out (below_alloc (.cells #[.int .i64 0, .int .i64 7, .int .i64 1, .int .i64 4] 3)))
      have Rq := Lib.hid (R8.out.below (below_alloc (.cells #[.int .i64 0, .int .i64 7, .int .i64 1, .int .i64 4] 3)))
      have Bq := Lib.hid (B8.out.below (below_alloc (.cells #[.int .i64 0, .int .i64 7, .int .i64 1, .int .i64 4] 3)))
      go_wp2_with fail
      have Aq := Lib.hid (rd_lit (w := w8.alloc (.cells #[.int .i64 0, .int .i64 7, .int .i64 1, .int .i64 4] 3)) (k := w8.heap.size) (n := 4) (l := ([0, 7, 1, 4] : List Int)) (enc := inV) (heap_new (by first | rfl | simp)) inV_len rfl (by simp [maxLen]) rfl)
      have hgs : g < w8.heap.size := by have := C8.out.lt; simpa using this
      refine (among_any g (K + 18) _ 4 4 _ _ (Cq.out.le (by omega)) (by omega) Aq.out (by omega) (by omega) (fun a ha => by injection ha with ha; subst ha; first | omega | (simp; omega) | (simp at hgs ⊢; omega))).mono ?_
      rintro e w9 ⟨⟨t, rfl, hx⟩, hc, hg⟩
      have Xt := Lib.hid (mem_bd (lo := 0) (hi := 7) hx (by decide))
      have C9 := Lib.hid hc
      have G9 := Lib.hid (grown_trans Gq.out hg)
      have R9 := Lib.hid (Rq.out.cur hg hgw)
      have B9 := Lib.hid (Bq.out.cur hg hgw)
      clear hx hc hg hgs Cq Gq Aq C8 G8 Rq R8 Bq B8
      obtain ⟨⟨q09, q19, q29, q39, q49, q59, q69⟩, k09, k19, k29, k39, k49, k59, k69⟩ := bx_cells B9.out
      obtain ⟨bx0, gx0⟩ := bx_set0 B9.out (t)
      have BA := Lib.hid bx0
      have CA := Lib.hid (C9.out.grown gx0 (fun k hk => by injection hk with hk; omega))
      have GA := Lib.hid (grown_row G9.out gx0 (fun k hk => by injection hk with hk; omega))
      have RA := Lib.hid (R9.out.grown gx0 (.inr (by simp [blockOf]; omega)))
      clear bx0 gx0 C9 G9 R9 B9
      obtain ⟨⟨q0A, q1A, q2A, q3A, q4A, q5A, q6A⟩, k0A, k1A, k2A, k3A, k4A, k5A, k6A⟩ := bx_cells BA.out
      obtain ⟨⟨r0, r1, r2, r3, r4, r5, r6⟩, z0, z1, z2, z3, z4, z5, z6⟩ := bx_cells RA.out
      obtain ⟨y0, g0⟩ := bx_set0 RA.out (t)
      obtain ⟨y1, g1⟩ := bx_set1 y0 (h)
      obtain ⟨y2, g2⟩ := bx_set2 y1 (mo)
      obtain ⟨y3, g3⟩ := bx_set3 y2 (0)
      obtain ⟨y4, g4⟩ := bx_set4 y3 (0)
      obtain ⟨y5, g5⟩ := bx_set5 y4 (0)
      obtain ⟨y6, g6⟩ := bx_set6 y5 (pa)
      have CF := Lib.hid ((CA.out.grown (grown_trans (grown_trans (grown_trans (grown_trans (grown_trans (grown_trans g0 g1) g2) g3) g4) g5) g6) (fun k hk => by injection hk with hk; omega)).le (K' := K + 30) (by omega))
      have GF := Lib.hid (grown_row GA.out (grown_trans (grown_trans (grown_trans (grown_trans (grown_trans (grown_trans g0 g1) g2) g3) g4) g5) g6) (fun k hk => by injection hk with hk; omega))
      obtain ⟨⟨v0, v1, v2, v3, v4, v5, v6⟩, -⟩ := bx_cells y6
      clear y0 y1 y2 y3 y4 y5 y6 g0 g1 g2 g3 g4 g5 g6
      go_wp2
      exact bodyPost_ret (v := .agg #[.int .i64 (t), .string (h), .string (mo), .int .i64 (0), .int .i64 (0), .int .i64 (0), .bool (pa)]) (by simp [results, Tryz.results26, go_sem, v0, v1, v2, v3, v4, v5, v6]) rfl ⟨⟨⟨t, h, mo, 0, 0, 0, pa⟩, rfl, ⟨(show (h : ByteArray).size ≤ 24 from Nat.le_trans h_s (by omega)), (show (mo : ByteArray).size ≤ 24 from Xmo.out)⟩⟩, CF.out, GF.out⟩
    have es0 : (s == 0) = false := by simp; omega
    by_cases hs1 : s = 1
    · subst hs1
      have Cq := Lib.hid (C8.out.below (below_alloc (.cells #[.string ⟨#[]⟩, .string ⟨#[65]⟩, .string ⟨#[97, 98, 99, 100, 101, 102, 103, 104, 105, 106, 107]⟩] 9)))
      have Gq := Lib.hid (grown_below G8.out (below_alloc (.cells #[.string ⟨#[]⟩, .string ⟨#[65]⟩, .string ⟨#[97, 98, 99, 100, 101, 102, 103, 104, 105, 106, 107]⟩] 9)))
      have Rq := Lib.hid (R8.out.below (below_alloc (.cells #[.string ⟨#[]⟩, .string ⟨#[65]⟩, .string ⟨#[97, 98, 99, 100, 101, 102, 103, 104, 105, 106, 107]⟩] 9)))
      have Bq := Lib.hid (B8.out.below (below_alloc (.cells #[.string ⟨#[]⟩, .string ⟨#[65]⟩, .string ⟨#[97, 98, 99, 100, 101, 102, 103, 104, 105, 106, 107]⟩] 9)))
      go_wp2_with fail
      have Aq := Lib.hid (rd_lit (w := w8.alloc (.cells #[.string ⟨#[]⟩, .string ⟨#[65]⟩, .string ⟨#[97, 98, 99, 100, 101, 102, 103, 104, 105, 106, 107]⟩] 9)) (k := w8.heap.size) (n := 3) (l := ([⟨#[]⟩, ⟨#[65]⟩, ⟨#[97, 98, 99, 100, 101, 102, 103, 104, 105, 106, 107]⟩] : List ByteArray)) (enc := stV) (heap_new (by first | rfl | simp)) stV_len rfl (by simp [maxLen]) rfl)
      have hgs : g < w8.heap.size := by have := C8.out.lt; simpa using this
      refine (of_any g (K + 18) _ 3 3 _ _ (Cq.out.le (by omega)) (by omega) Aq.out (by omega) (by omega) (fun a ha => by injection ha with ha; subst ha; first | omega | (simp; omega) | (simp at hgs ⊢; omega))).mono ?_
      rintro e w9 ⟨⟨t, rfl, hx⟩, hc, hg⟩
      have Xt := Lib.hid (of_sz (m := 24) hx (by decide))
      have C9 := Lib.hid hc
      have G9 := Lib.hid (grown_trans Gq.out hg)
      have R9 := Lib.hid (Rq.out.cur hg hgw)
      have B9 := Lib.hid (Bq.out.cur hg hgw)
      clear hx hc hg hgs Cq Gq Aq C8 G8 Rq R8 Bq B8
      obtain ⟨⟨q09, q19, q29, q39, q49, q59, q69⟩, k09, k19, k29, k39, k49, k59, k69⟩ := bx_cells B9.out
      obtain ⟨bx0, gx0⟩ := bx_set1 B9.out (t)
      have BA := Lib.hid bx0
      have CA := Lib.hid (C9.out.grown gx0 (fun k hk => by injection hk with hk; omega))
      have GA := Lib.hid (grown_row G9.out gx0 (fun k hk => by injection hk with hk; omega))
      have RA := Lib.hid (R9.out.grown gx0 (.inr (by simp [blockOf]; omega)))
      clear bx0 gx0 C9 G9 R9 B9
      obtain ⟨⟨q0A, q1A, q2A, q3A, q4A, q5A, q6A⟩, k0A, k1A, k2A, k3A, k4A, k5A, k6A⟩ := bx_cells BA.out
      obtain ⟨⟨r0, r1, r2, r3, r4, r5, r6⟩, z0, z1, z2, z3, z4, z5, z6⟩ := bx_cells RA.out
      obtain ⟨y0, g0⟩ := bx_set0 RA.out (5)
      obtain ⟨y1, g1⟩ := bx_set1 y0 (t)
      obtain ⟨y2, g2⟩ := bx_set2 y1 (mo)
      obtain ⟨y3, g3⟩ := bx_set3 y2 (0)
      obtain ⟨y4, g4⟩ := bx_set4 y3 (0)
      obtain ⟨y5, g5⟩ := bx_set5 y4 (0)
      obtain ⟨y6, g6⟩ := bx_set6 y5 (pa)
      have CF := Lib.hid ((CA.out.grown (grown_trans (grown_trans (grown_trans (grown_trans (grown_trans (grown_trans g0 g1) g2) g3) g4) g5) g6) (fun k hk => by injection hk with hk; omega)).le (K' := K + 30) (by omega))
      have GF := Lib.hid (grown_row GA.out (grown_trans (grown_trans (grown_trans (grown_trans (grown_trans (grown_trans g0 g1) g2) g3) g4) g5) g6) (fun k hk => by injection hk with hk; omega))
      obtain ⟨⟨v0, v1, v2, v3, v4, v5, v6⟩, -⟩ := bx_cells y6
      clear y0 y1 y2 y3 y4 y5 y6 g0 g1 g2 g3 g4 g5 g6
      go_wp2
      exact bodyPost_ret (v := .agg #[.int .i64 (5), .string (t), .string (mo), .int .i64 (0), .int .i64 (0), .int .i64 (0), .bool (pa)]) (by simp [results, Tryz.results26, go_sem, v0, v1, v2, v3, v4, v5, v6]) rfl ⟨⟨⟨5, t, mo, 0, 0, 0, pa⟩, rfl, ⟨(show (t : ByteArray).size ≤ 24 from Xt.out), (show (mo : ByteArray).size ≤ 24 from Xmo.out)⟩⟩, CF.out, GF.out⟩
    have es1 : (s == 1) = false := by simp; omega
    by_cases hs2 : s = 2
    · subst hs2
      have Cq := Lib.hid (C8.out.below (below_alloc (.cells #[.string ⟨#[]⟩, .string ⟨#[65, 32, 98]⟩] 9)))
      have Gq := Lib.hid (grown_below G8.out (below_alloc (.cells #[.string ⟨#[]⟩, .string ⟨#[65, 32, 98]⟩] 9)))
      have Rq := Lib.hid (R8.out.below (below_alloc (.cells #[.string ⟨#[]⟩, .string ⟨#[65, 32, 98]⟩] 9)))
      have Bq := Lib.hid (B8.out.below (below_alloc (.cells #[.string ⟨#[]⟩, .string ⟨#[65, 32, 98]⟩] 9)))
      go_wp2_with fail
      have Aq := Lib.hid (rd_lit (w := w8.alloc (.cells #[.string ⟨#[]⟩, .string ⟨#[65, 32, 98]⟩] 9)) (k := w8.heap.size) (n := 2) (l := ([⟨#[]⟩, ⟨#[65, 32, 98]⟩] : List ByteArray)) (enc := stV) (heap_new (by first | rfl | simp)) stV_len rfl (by simp [maxLen]) rfl)
      have hgs : g < w8.heap.size := by have := C8.out.lt; simpa using this
      refine (of_any g (K + 18) _ 2 2 _ _ (Cq.out.le (by omega)) (by omega) Aq.out (by omega) (by omega) (fun a ha => by injection ha with ha; subst ha; first | omega | (simp; omega) | (simp at hgs ⊢; omega))).mono ?_
      rintro e w9 ⟨⟨t, rfl, hx⟩, hc, hg⟩
      have Xt := Lib.hid (of_sz (m := 24) hx (by decide))
      have C9 := Lib.hid hc
      have G9 := Lib.hid (grown_trans Gq.out hg)
      have R9 := Lib.hid (Rq.out.cur hg hgw)
      have B9 := Lib.hid (Bq.out.cur hg hgw)
      clear hx hc hg hgs Cq Gq Aq C8 G8 Rq R8 Bq B8
      obtain ⟨⟨q09, q19, q29, q39, q49, q59, q69⟩, k09, k19, k29, k39, k49, k59, k69⟩ := bx_cells B9.out
      obtain ⟨bx0, gx0⟩ := bx_set2 B9.out (t)
      have BA := Lib.hid bx0
      have CA := Lib.hid (C9.out.grown gx0 (fun k hk => by injection hk with hk; omega))
      have GA := Lib.hid (grown_row G9.out gx0 (fun k hk => by injection hk with hk; omega))
      have RA := Lib.hid (R9.out.grown gx0 (.inr (by simp [blockOf]; omega)))
      clear bx0 gx0 C9 G9 R9 B9
      obtain ⟨⟨q0A, q1A, q2A, q3A, q4A, q5A, q6A⟩, k0A, k1A, k2A, k3A, k4A, k5A, k6A⟩ := bx_cells BA.out
      obtain ⟨⟨r0, r1, r2, r3, r4, r5, r6⟩, z0, z1, z2, z3, z4, z5, z6⟩ := bx_cells RA.out
      obtain ⟨y0, g0⟩ := bx_set0 RA.out (5)
      obtain ⟨y1, g1⟩ := bx_set1 y0 (h)
      obtain ⟨y2, g2⟩ := bx_set2 y1 (t)
      obtain ⟨y3, g3⟩ := bx_set3 y2 (0)
      obtain ⟨y4, g4⟩ := bx_set4 y3 (0)
      obtain ⟨y5, g5⟩ := bx_set5 y4 (0)
      obtain ⟨y6, g6⟩ := bx_set6 y5 (pa)
      have CF := Lib.hid ((CA.out.grown (grown_trans (grown_trans (grown_trans (grown_trans (grown_trans (grown_trans g0 g1) g2) g3) g4) g5) g6) (fun k hk => by injection hk with hk; omega)).le (K' := K + 30) (by omega))
      have GF := Lib.hid (grown_row GA.out (grown_trans (grown_trans (grown_trans (grown_trans (grown_trans (grown_trans g0 g1) g2) g3) g4) g5) g6) (fun k hk => by injection hk with hk; omega))
      obtain ⟨⟨v0, v1, v2, v3, v4, v5, v6⟩, -⟩ := bx_cells y6
      clear y0 y1 y2 y3 y4 y5 y6 g0 g1 g2 g3 g4 g5 g6
      go_wp2
      exact bodyPost_ret (v := .agg #[.int .i64 (5), .string (h), .string (t), .int .i64 (0), .int .i64 (0), .int .i64 (0), .bool (pa)]) (by simp [results, Tryz.results26, go_sem, v0, v1, v2, v3, v4, v5, v6]) rfl ⟨⟨⟨5, h, t, 0, 0, 0, pa⟩, rfl, ⟨(show (h : ByteArray).size ≤ 24 from Nat.le_trans h_s (by omega)), (show (t : ByteArray).size ≤ 24 from Xt.out)⟩⟩, CF.out, GF.out⟩
    have es2 : (s == 2) = false := by simp; omega
    by_cases hs3 : s = 3
    · subst hs3
      have Cq := Lib.hid (C8.out.below (below_alloc (.cells #[.int .i64 (-1), .int .i64 1001, .int .i64 1] 3)))
      have Gq := Lib.hid (grown_below G8.out (below_alloc (.cells #[.int .i64 (-1), .int .i64 1001, .int .i64 1] 3)))
      have Rq := Lib.hid (R8.out.below (below_alloc (.cells #[.int .i64 (-1), .int .i64 1001, .int .i64 1] 3)))
      have Bq := Lib.hid (B8.out.below (below_alloc (.cells #[.int .i64 (-1), .int .i64 1001, .int .i64 1] 3)))
      go_wp2_with fail
      have Aq := Lib.hid (rd_lit (w := w8.alloc (.cells #[.int .i64 (-1), .int .i64 1001, .int .i64 1] 3)) (k := w8.heap.size) (n := 3) (l := ([(-1), 1001, 1] : List Int)) (enc := inV) (heap_new (by first | rfl | simp)) inV_len rfl (by simp [maxLen]) rfl)
      have hgs : g < w8.heap.size := by have := C8.out.lt; simpa using this
      refine (among_any g (K + 18) _ 3 3 _ _ (Cq.out.le (by omega)) (by omega) Aq.out (by omega) (by omega) (fun a ha => by injection ha with ha; subst ha; first | omega | (simp; omega) | (simp at hgs ⊢; omega))).mono ?_
      rintro e w9 ⟨⟨t, rfl, hx⟩, hc, hg⟩
      have Xt := Lib.hid (mem_bd (lo := -1) (hi := 1001) hx (by decide))
      have C9 := Lib.hid hc
      have G9 := Lib.hid (grown_trans Gq.out hg)
      have R9 := Lib.hid (Rq.out.cur hg hgw)
      have B9 := Lib.hid (Bq.out.cur hg hgw)
      clear hx hc hg hgs Cq Gq Aq C8 G8 Rq R8 Bq B8
      obtain ⟨⟨q09, q19, q29, q39, q49, q59, q69⟩, k09, k19, k29, k39, k49, k59, k69⟩ := bx_cells B9.out
      obtain ⟨bx0, gx0⟩ := bx_set4 B9.out (t)
      have BA := Lib.hid bx0
      have CA := Lib.hid (C9.out.grown gx0 (fun k hk => by injection hk with hk; omega))
      have GA := Lib.hid (grown_row G9.out gx0 (fun k hk => by injection hk with hk; omega))
      have RA := Lib.hid (R9.out.grown gx0 (.inr (by simp [blockOf]; omega)))
      clear bx0 gx0 C9 G9 R9 B9
      obtain ⟨⟨q0A, q1A, q2A, q3A, q4A, q5A, q6A⟩, k0A, k1A, k2A, k3A, k4A, k5A, k6A⟩ := bx_cells BA.out
      obtain ⟨⟨r0, r1, r2, r3, r4, r5, r6⟩, z0, z1, z2, z3, z4, z5, z6⟩ := bx_cells RA.out
      obtain ⟨y0, g0⟩ := bx_set0 RA.out (5)
      obtain ⟨y1, g1⟩ := bx_set1 y0 (h)
      obtain ⟨y2, g2⟩ := bx_set2 y1 (mo)
      obtain ⟨y3, g3⟩ := bx_set3 y2 (0)
      obtain ⟨y4, g4⟩ := bx_set4 y3 (t)
      obtain ⟨y5, g5⟩ := bx_set5 y4 (0)
      obtain ⟨y6, g6⟩ := bx_set6 y5 (pa)
      have CF := Lib.hid ((CA.out.grown (grown_trans (grown_trans (grown_trans (grown_trans (grown_trans (grown_trans g0 g1) g2) g3) g4) g5) g6) (fun k hk => by injection hk with hk; omega)).le (K' := K + 30) (by omega))
      have GF := Lib.hid (grown_row GA.out (grown_trans (grown_trans (grown_trans (grown_trans (grown_trans (grown_trans g0 g1) g2) g3) g4) g5) g6) (fun k hk => by injection hk with hk; omega))
      obtain ⟨⟨v0, v1, v2, v3, v4, v5, v6⟩, -⟩ := bx_cells y6
      clear y0 y1 y2 y3 y4 y5 y6 g0 g1 g2 g3 g4 g5 g6
      go_wp2
      exact bodyPost_ret (v := .agg #[.int .i64 (5), .string (h), .string (mo), .int .i64 (0), .int .i64 (t), .int .i64 (0), .bool (pa)]) (by simp [results, Tryz.results26, go_sem, v0, v1, v2, v3, v4, v5, v6]) rfl ⟨⟨⟨5, h, mo, 0, t, 0, pa⟩, rfl, ⟨(show (h : ByteArray).size ≤ 24 from Nat.le_trans h_s (by omega)), (show (mo : ByteArray).size ≤ 24 from Xmo.out)⟩⟩, CF.out, GF.out⟩
    have es3 : (s == 3) = false := by simp; omega
    by_cases hs4 : s = 4
    · subst hs4
      obtain ⟨⟨q08, q18, q28, q38, q48, q58, q68⟩, k08, k18, k28, k38, k48, k58, k68⟩ := bx_cells B8.out
      obtain ⟨bx0, gx0⟩ := bx_set6 B8.out (true)
      have BA := Lib.hid bx0
      have CA := Lib.hid (C8.out.grown gx0 (fun k hk => by injection hk with hk; omega))
      have GA := Lib.hid (grown_row G8.out gx0 (fun k hk => by injection hk with hk; omega))
      have RA := Lib.hid (R8.out.grown gx0 (.inr (by simp [blockOf]; omega)))
      clear bx0 gx0 C8 G8 R8 B8
      obtain ⟨⟨q0A, q1A, q2A, q3A, q4A, q5A, q6A⟩, k0A, k1A, k2A, k3A, k4A, k5A, k6A⟩ := bx_cells BA.out
      obtain ⟨⟨r0, r1, r2, r3, r4, r5, r6⟩, z0, z1, z2, z3, z4, z5, z6⟩ := bx_cells RA.out
      obtain ⟨y0, g0⟩ := bx_set0 RA.out (5)
      obtain ⟨y1, g1⟩ := bx_set1 y0 (h)
      obtain ⟨y2, g2⟩ := bx_set2 y1 (mo)
      obtain ⟨y3, g3⟩ := bx_set3 y2 (0)
      obtain ⟨y4, g4⟩ := bx_set4 y3 (0)
      obtain ⟨y5, g5⟩ := bx_set5 y4 (0)
      obtain ⟨y6, g6⟩ := bx_set6 y5 (true)
      have CF := Lib.hid ((CA.out.grown (grown_trans (grown_trans (grown_trans (grown_trans (grown_trans (grown_trans g0 g1) g2) g3) g4) g5) g6) (fun k hk => by injection hk with hk; omega)).le (K' := K + 30) (by omega))
      have GF := Lib.hid (grown_row GA.out (grown_trans (grown_trans (grown_trans (grown_trans (grown_trans (grown_trans g0 g1) g2) g3) g4) g5) g6) (fun k hk => by injection hk with hk; omega))
      obtain ⟨⟨v0, v1, v2, v3, v4, v5, v6⟩, -⟩ := bx_cells y6
      clear y0 y1 y2 y3 y4 y5 y6 g0 g1 g2 g3 g4 g5 g6
      go_wp2
      exact bodyPost_ret (v := .agg #[.int .i64 (5), .string (h), .string (mo), .int .i64 (0), .int .i64 (0), .int .i64 (0), .bool (true)]) (by simp [results, Tryz.results26, go_sem, v0, v1, v2, v3, v4, v5, v6]) rfl ⟨⟨⟨5, h, mo, 0, 0, 0, true⟩, rfl, ⟨(show (h : ByteArray).size ≤ 24 from Nat.le_trans h_s (by omega)), (show (mo : ByteArray).size ≤ 24 from Xmo.out)⟩⟩, CF.out, GF.out⟩
    have es4 : (s == 4) = false := by simp; omega
    obtain ⟨⟨q08, q18, q28, q38, q48, q58, q68⟩, k08, k18, k28, k38, k48, k58, k68⟩ := bx_cells B8.out
    obtain ⟨⟨r0, r1, r2, r3, r4, r5, r6⟩, z0, z1, z2, z3, z4, z5, z6⟩ := bx_cells R8.out
    obtain ⟨y0, g0⟩ := bx_set0 R8.out (5)
    obtain ⟨y1, g1⟩ := bx_set1 y0 (h)
    obtain ⟨y2, g2⟩ := bx_set2 y1 (mo)
    obtain ⟨y3, g3⟩ := bx_set3 y2 (0)
    obtain ⟨y4, g4⟩ := bx_set4 y3 (0)
    obtain ⟨y5, g5⟩ := bx_set5 y4 (0)
    obtain ⟨y6, g6⟩ := bx_set6 y5 (pa)
    have CF := Lib.hid ((C8.out.grown (grown_trans (grown_trans (grown_trans (grown_trans (grown_trans (grown_trans g0 g1) g2) g3) g4) g5) g6) (fun k hk => by injection hk with hk; omega)).le (K' := K + 30) (by omega))
    have GF := Lib.hid (grown_row G8.out (grown_trans (grown_trans (grown_trans (grown_trans (grown_trans (grown_trans g0 g1) g2) g3) g4) g5) g6) (fun k hk => by injection hk with hk; omega))
    obtain ⟨⟨v0, v1, v2, v3, v4, v5, v6⟩, -⟩ := bx_cells y6
    clear y0 y1 y2 y3 y4 y5 y6 g0 g1 g2 g3 g4 g5 g6
    go_wp2
    exact bodyPost_ret (v := .agg #[.int .i64 (5), .string (h), .string (mo), .int .i64 (0), .int .i64 (0), .int .i64 (0), .bool (pa)]) (by simp [results, Tryz.results26, go_sem, v0, v1, v2, v3, v4, v5, v6]) rfl ⟨⟨⟨5, h, mo, 0, 0, 0, pa⟩, rfl, ⟨(show (h : ByteArray).size ≤ 24 from Nat.le_trans h_s (by omega)), (show (mo : ByteArray).size ≤ 24 from Xmo.out)⟩⟩, CF.out, GF.out⟩
  have e1 : ((1 + x) == 1) = false := by simp; omega
  have e6 : ((1 + x) == 6) = false := by simp; omega
  have e4 : ((1 + x) == 4) = false := by simp; omega
  have e5 : ((1 + x) == 5) = false := by simp; omega
  have B4 := Lib.hid ((own_one (enc := enV) w3 #[.int .i64 (1 + x), .string h, .string mo, .int .i64 0, .int .i64 0, .int .i64 0, .bool false] 27 (⟨1 + x, h, mo, 0, 0, 0, false⟩ : EN) rfl rfl).base_le (b := w.heap.size) hw3)
  have C4 := Lib.hid (C3.out.below (below_alloc (.cells #[.int .i64 (1 + x), .string h, .string mo, .int .i64 0, .int .i64 0, .int .i64 0, .bool false] 27)))
  have G4 := Lib.hid (grown_below G3.out (below_alloc (.cells #[.int .i64 (1 + x), .string h, .string mo, .int .i64 0, .int .i64 0, .int .i64 0, .bool false] 27)))
  have R4 := Lib.hid (R3.out.below (below_alloc (.cells #[.int .i64 (1 + x), .string h, .string mo, .int .i64 0, .int .i64 0, .int .i64 0, .bool false] 27)))
  clear C3 G3 R3
  go_wp2_with fail
  refine (pick_any g (K + 16) 60 _ (C4.out.le (by omega)) (by omega) (by omega) (by omega)).mono ?_
  rintro e w8 ⟨⟨s, rfl, s_0, s_1⟩, hc, hg⟩
  have C8 := Lib.hid hc
  have G8 := Lib.hid (grown_trans G4.out hg)
  have R8 := Lib.hid (R4.out.cur hg hgw)
  have B8 := Lib.hid (B4.out.cur hg hgw)
  clear hc hg C4 G4 R4 B4
  by_cases hs0 : s = 0
  · subst hs0
    have Cq := Lib.hid (C8.out.below (below_alloc (.cells #[.int .i64 0, .int .i64 7, .int .i64 1, .int .i64 4] 3)))
    have Gq := Lib.hid (grown_below G8.out (below_alloc (.cells #[.int .i64 0, .int .i64 7, .int .i64 1, .int .i64 4] 3)))
    have Rq := Lib.hid (R8.out.below (below_alloc (.cells #[.int .i64 0, .int .i64 7, .int .i64 1, .int .i64 4] 3)))
    have Bq := Lib.hid (B8.out.below (below_alloc (.cells #[.int .i64 0, .int .i64 7, .int .i64 1, .int .i64 4] 3)))
    go_wp2_with fail
    have Aq := Lib.hid (rd_lit (w := w8.alloc (.cells #[.int .i64 0, .int .i64 7, .int .i64 1, .int .i64 4] 3)) (k := w8.heap.size) (n := 4) (l := ([0, 7, 1, 4] : List Int)) (enc := inV) (heap_new (by first | rfl | simp)) inV_len rfl (by simp [maxLen]) rfl)
    have hgs : g < w8.heap.size := by have := C8.out.lt; simpa using this
    refine (among_any g (K + 18) _ 4 4 _ _ (Cq.out.le (by omega)) (by omega) Aq.out (by omega) (by omega) (fun a ha => by injection ha with ha; subst ha; first | omega | (simp; omega) | (simp at hgs ⊢; omega))).mono ?_
    rintro e w9 ⟨⟨t, rfl, hx⟩, hc, hg⟩
    have Xt := Lib.hid (mem_bd (lo := 0) (hi := 7) hx (by decide))
    have C9 := Lib.hid hc
    have G9 := Lib.hid (grown_trans Gq.out hg)
    have R9 := Lib.hid (Rq.out.cur hg hgw)
    have B9 := Lib.hid (Bq.out.cur hg hgw)
    clear hx hc hg hgs Cq Gq Aq C8 G8 Rq R8 Bq B8
    obtain ⟨⟨q09, q19, q29, q39, q49, q59, q69⟩, k09, k19, k29, k39, k49, k59, k69⟩ := bx_cells B9.out
    obtain ⟨bx0, gx0⟩ := bx_set0 B9.out (t)
    have BA := Lib.hid bx0
    have CA := Lib.hid (C9.out.grown gx0 (fun k hk => by injection hk with hk; omega))
    have GA := Lib.hid (grown_row G9.out gx0 (fun k hk => by injection hk with hk; omega))
    have RA := Lib.hid (R9.out.grown gx0 (.inr (by simp [blockOf]; omega)))
    clear bx0 gx0 C9 G9 R9 B9
    obtain ⟨⟨q0A, q1A, q2A, q3A, q4A, q5A, q6A⟩, k0A, k1A, k2A, k3A, k4A, k5A, k6A⟩ := bx_cells BA.out
    obtain ⟨⟨r0, r1, r2, r3, r4, r5, r6⟩, z0, z1, z2, z3, z4, z5, z6⟩ := bx_cells RA.out
    obtain ⟨y0, g0⟩ := bx_set0 RA.out (t)
    obtain ⟨y1, g1⟩ := bx_set1 y0 (h)
    obtain ⟨y2, g2⟩ := bx_set2 y1 (mo)
    obtain ⟨y3, g3⟩ := bx_set3 y2 (0)
    obtain ⟨y4, g4⟩ := bx_set4 y3 (0)
    obtain ⟨y5, g5⟩ := bx_set5 y4 (0)
    obtain ⟨y6, g6⟩ := bx_set6 y5 (false)
    have CF := Lib.hid ((CA.out.grown (grown_trans (grown_trans (grown_trans (grown_trans (grown_trans (grown_trans g0 g1) g2) g3) g4) g5) g6) (fun k hk => by injection hk with hk; omega)).le (K' := K + 30) (by omega))
    have GF := Lib.hid (grown_row GA.out (grown_trans (grown_trans (grown_trans (grown_trans (grown_trans (grown_trans g0 g1) g2) g3) g4) g5) g6) (fun k hk => by injection hk with hk; omega))
    obtain ⟨⟨v0, v1, v2, v3, v4, v5, v6⟩, -⟩ := bx_cells y6
    clear y0 y1 y2 y3 y4 y5 y6 g0 g1 g2 g3 g4 g5 g6
    go_wp2
    exact bodyPost_ret (v := .agg #[.int .i64 (t), .string (h), .string (mo), .int .i64 (0), .int .i64 (0), .int .i64 (0), .bool (false)]) (by simp [results, Tryz.results26, go_sem, v0, v1, v2, v3, v4, v5, v6]) rfl ⟨⟨⟨t, h, mo, 0, 0, 0, false⟩, rfl, ⟨(show (h : ByteArray).size ≤ 24 from Nat.le_trans h_s (by omega)), (show (mo : ByteArray).size ≤ 24 from Xmo.out)⟩⟩, CF.out, GF.out⟩
  have es0 : (s == 0) = false := by simp; omega
  by_cases hs1 : s = 1
  · subst hs1
    have Cq := Lib.hid (C8.out.below (below_alloc (.cells #[.string ⟨#[]⟩, .string ⟨#[65]⟩, .string ⟨#[97, 98, 99, 100, 101, 102, 103, 104, 105, 106, 107]⟩] 9)))
    have Gq := Lib.hid (grown_below G8.out (below_alloc (.cells #[.string ⟨#[]⟩, .string ⟨#[65]⟩, .string ⟨#[97, 98, 99, 100, 101, 102, 103, 104, 105, 106, 107]⟩] 9)))
    have Rq := Lib.hid (R8.out.below (below_alloc (.cells #[.string ⟨#[]⟩, .string ⟨#[65]⟩, .string ⟨#[97, 98, 99, 100, 101, 102, 103, 104, 105, 106, 107]⟩] 9)))
    have Bq := Lib.hid (B8.out.below (below_alloc (.cells #[.string ⟨#[]⟩, .string ⟨#[65]⟩, .string ⟨#[97, 98, 99, 100, 101, 102, 103, 104, 105, 106, 107]⟩] 9)))
    go_wp2_with fail
    have Aq := Lib.hid (rd_lit (w := w8.alloc (.cells #[.string ⟨#[]⟩, .string ⟨#[65]⟩, .string ⟨#[97, 98, 99, 100, 101, 102, 103, 104, 105, 106, 107]⟩] 9)) (k := w8.heap.size) (n := 3) (l := ([⟨#[]⟩, ⟨#[65]⟩, ⟨#[97, 98, 99, 100, 101, 102, 103, 104, 105, 106, 107]⟩] : List ByteArray)) (enc := stV) (heap_new (by first | rfl | simp)) stV_len rfl (by simp [maxLen]) rfl)
    have hgs : g < w8.heap.size := by have := C8.out.lt; simpa using this
    refine (of_any g (K + 18) _ 3 3 _ _ (Cq.out.le (by omega)) (by omega) Aq.out (by omega) (by omega) (fun a ha => by injection ha with ha; subst ha; first | omega | (simp; omega) | (simp at hgs ⊢; omega))).mono ?_
    rintro e w9 ⟨⟨t, rfl, hx⟩, hc, hg⟩
    have Xt := Lib.hid (of_sz (m := 24) hx (by decide))
    have C9 := Lib.hid hc
    have G9 := Lib.hid (grown_trans Gq.out hg)
    have R9 := Lib.hid (Rq.out.cur hg hgw)
    have B9 := Lib.hid (Bq.out.cur hg hgw)
    clear hx hc hg hgs Cq Gq Aq C8 G8 Rq R8 Bq B8
    obtain ⟨⟨q09, q19, q29, q39, q49, q59, q69⟩, k09, k19, k29, k39, k49, k59, k69⟩ := bx_cells B9.out
    obtain ⟨bx0, gx0⟩ := bx_set1 B9.out (t)
    have BA := Lib.hid bx0
    have CA := Lib.hid (C9.out.grown gx0 (fun k hk => by injection hk with hk; omega))
    have GA := Lib.hid (grown_row G9.out gx0 (fun k hk => by injection hk with hk; omega))
    have RA := Lib.hid (R9.out.grown gx0 (.inr (by simp [blockOf]; omega)))
    clear bx0 gx0 C9 G9 R9 B9
    obtain ⟨⟨q0A, q1A, q2A, q3A, q4A, q5A, q6A⟩, k0A, k1A, k2A, k3A, k4A, k5A, k6A⟩ := bx_cells BA.out
    obtain ⟨⟨r0, r1, r2, r3, r4, r5, r6⟩, z0, z1, z2, z3, z4, z5, z6⟩ := bx_cells RA.out
    obtain ⟨y0, g0⟩ := bx_set0 RA.out (1 + x)
    obtain ⟨y1, g1⟩ := bx_set1 y0 (t)
    obtain ⟨y2, g2⟩ := bx_set2 y1 (mo)
    obtain ⟨y3, g3⟩ := bx_set3 y2 (0)
    obtain ⟨y4, g4⟩ := bx_set4 y3 (0)
    obtain ⟨y5, g5⟩ := bx_set5 y4 (0)
    obtain ⟨y6, g6⟩ := bx_set6 y5 (false)
    have CF := Lib.hid ((CA.out.grown (grown_trans (grown_trans (grown_trans (grown_trans (grown_trans (grown_trans g0 g1) g2) g3) g4) g5) g6) (fun k hk => by injection hk with hk; omega)).le (K' := K + 30) (by omega))
    have GF := Lib.hid (grown_row GA.out (grown_trans (grown_trans (grown_trans (grown_trans (grown_trans (grown_trans g0 g1) g2) g3) g4) g5) g6) (fun k hk => by injection hk with hk; omega))
    obtain ⟨⟨v0, v1, v2, v3, v4, v5, v6⟩, -⟩ := bx_cells y6
    clear y0 y1 y2 y3 y4 y5 y6 g0 g1 g2 g3 g4 g5 g6
    go_wp2
    exact bodyPost_ret (v := .agg #[.int .i64 (1 + x), .string (t), .string (mo), .int .i64 (0), .int .i64 (0), .int .i64 (0), .bool (false)]) (by simp [results, Tryz.results26, go_sem, v0, v1, v2, v3, v4, v5, v6]) rfl ⟨⟨⟨1 + x, t, mo, 0, 0, 0, false⟩, rfl, ⟨(show (t : ByteArray).size ≤ 24 from Xt.out), (show (mo : ByteArray).size ≤ 24 from Xmo.out)⟩⟩, CF.out, GF.out⟩
  have es1 : (s == 1) = false := by simp; omega
  by_cases hs2 : s = 2
  · subst hs2
    have Cq := Lib.hid (C8.out.below (below_alloc (.cells #[.string ⟨#[]⟩, .string ⟨#[65, 32, 98]⟩] 9)))
    have Gq := Lib.hid (grown_below G8.out (below_alloc (.cells #[.string ⟨#[]⟩, .string ⟨#[65, 32, 98]⟩] 9)))
    have Rq := Lib.hid (R8.out.below (below_alloc (.cells #[.string ⟨#[]⟩, .string ⟨#[65, 32, 98]⟩] 9)))
    have Bq := Lib.hid (B8.out.below (below_alloc (.cells #[.string ⟨#[]⟩, .string ⟨#[65, 32, 98]⟩] 9)))
    go_wp2_with fail
    have Aq := Lib.hid (rd_lit (w := w8.alloc (.cells #[.string ⟨#[]⟩, .string ⟨#[65, 32, 98]⟩] 9)) (k := w8.heap.size) (n := 2) (l := ([⟨#[]⟩, ⟨#[65, 32, 98]⟩] : List ByteArray)) (enc := stV) (heap_new (by first | rfl | simp)) stV_len rfl (by simp [maxLen]) rfl)
    have hgs : g < w8.heap.size := by have := C8.out.lt; simpa using this
    refine (of_any g (K + 18) _ 2 2 _ _ (Cq.out.le (by omega)) (by omega) Aq.out (by omega) (by omega) (fun a ha => by injection ha with ha; subst ha; first | omega | (simp; omega) | (simp at hgs ⊢; omega))).mono ?_
    rintro e w9 ⟨⟨t, rfl, hx⟩, hc, hg⟩
    have Xt := Lib.hid (of_sz (m := 24) hx (by decide))
    have C9 := Lib.hid hc
    have G9 := Lib.hid (grown_trans Gq.out hg)
    have R9 := Lib.hid (Rq.out.cur hg hgw)
    have B9 := Lib.hid (Bq.out.cur hg hgw)
    clear hx hc hg hgs Cq Gq Aq C8 G8 Rq R8 Bq B8
    obtain ⟨⟨q09, q19, q29, q39, q49, q59, q69⟩, k09, k19, k29, k39, k49, k59, k69⟩ := bx_cells B9.out
    obtain ⟨bx0, gx0⟩ := bx_set2 B9.out (t)
    have BA := Lib.hid bx0
    have CA := Lib.hid (C9.out.grown gx0 (fun k hk => by injection hk with hk; omega))
    have GA := Lib.hid (grown_row G9.out gx0 (fun k hk => by injection hk with hk; omega))
    have RA := Lib.hid (R9.out.grown gx0 (.inr (by simp [blockOf]; omega)))
    clear bx0 gx0 C9 G9 R9 B9
    obtain ⟨⟨q0A, q1A, q2A, q3A, q4A, q5A, q6A⟩, k0A, k1A, k2A, k3A, k4A, k5A, k6A⟩ := bx_cells BA.out
    obtain ⟨⟨r0, r1, r2, r3, r4, r5, r6⟩, z0, z1, z2, z3, z4, z5, z6⟩ := bx_cells RA.out
    obtain ⟨y0, g0⟩ := bx_set0 RA.out (1 + x)
    obtain ⟨y1, g1⟩ := bx_set1 y0 (h)
    obtain ⟨y2, g2⟩ := bx_set2 y1 (t)
    obtain ⟨y3, g3⟩ := bx_set3 y2 (0)
    obtain ⟨y4, g4⟩ := bx_set4 y3 (0)
    obtain ⟨y5, g5⟩ := bx_set5 y4 (0)
    obtain ⟨y6, g6⟩ := bx_set6 y5 (false)
    have CF := Lib.hid ((CA.out.grown (grown_trans (grown_trans (grown_trans (grown_trans (grown_trans (grown_trans g0 g1) g2) g3) g4) g5) g6) (fun k hk => by injection hk with hk; omega)).le (K' := K + 30) (by omega))
    have GF := Lib.hid (grown_row GA.out (grown_trans (grown_trans (grown_trans (grown_trans (grown_trans (grown_trans g0 g1) g2) g3) g4) g5) g6) (fun k hk => by injection hk with hk; omega))
    obtain ⟨⟨v0, v1, v2, v3, v4, v5, v6⟩, -⟩ := bx_cells y6
    clear y0 y1 y2 y3 y4 y5 y6 g0 g1 g2 g3 g4 g5 g6
    go_wp2
    exact bodyPost_ret (v := .agg #[.int .i64 (1 + x), .string (h), .string (t), .int .i64 (0), .int .i64 (0), .int .i64 (0), .bool (false)]) (by simp [results, Tryz.results26, go_sem, v0, v1, v2, v3, v4, v5, v6]) rfl ⟨⟨⟨1 + x, h, t, 0, 0, 0, false⟩, rfl, ⟨(show (h : ByteArray).size ≤ 24 from Nat.le_trans h_s (by omega)), (show (t : ByteArray).size ≤ 24 from Xt.out)⟩⟩, CF.out, GF.out⟩
  have es2 : (s == 2) = false := by simp; omega
  by_cases hs3 : s = 3
  · subst hs3
    have Cq := Lib.hid (C8.out.below (below_alloc (.cells #[.int .i64 (-1), .int .i64 1001, .int .i64 1] 3)))
    have Gq := Lib.hid (grown_below G8.out (below_alloc (.cells #[.int .i64 (-1), .int .i64 1001, .int .i64 1] 3)))
    have Rq := Lib.hid (R8.out.below (below_alloc (.cells #[.int .i64 (-1), .int .i64 1001, .int .i64 1] 3)))
    have Bq := Lib.hid (B8.out.below (below_alloc (.cells #[.int .i64 (-1), .int .i64 1001, .int .i64 1] 3)))
    go_wp2_with fail
    have Aq := Lib.hid (rd_lit (w := w8.alloc (.cells #[.int .i64 (-1), .int .i64 1001, .int .i64 1] 3)) (k := w8.heap.size) (n := 3) (l := ([(-1), 1001, 1] : List Int)) (enc := inV) (heap_new (by first | rfl | simp)) inV_len rfl (by simp [maxLen]) rfl)
    have hgs : g < w8.heap.size := by have := C8.out.lt; simpa using this
    refine (among_any g (K + 18) _ 3 3 _ _ (Cq.out.le (by omega)) (by omega) Aq.out (by omega) (by omega) (fun a ha => by injection ha with ha; subst ha; first | omega | (simp; omega) | (simp at hgs ⊢; omega))).mono ?_
    rintro e w9 ⟨⟨t, rfl, hx⟩, hc, hg⟩
    have Xt := Lib.hid (mem_bd (lo := -1) (hi := 1001) hx (by decide))
    have C9 := Lib.hid hc
    have G9 := Lib.hid (grown_trans Gq.out hg)
    have R9 := Lib.hid (Rq.out.cur hg hgw)
    have B9 := Lib.hid (Bq.out.cur hg hgw)
    clear hx hc hg hgs Cq Gq Aq C8 G8 Rq R8 Bq B8
    obtain ⟨⟨q09, q19, q29, q39, q49, q59, q69⟩, k09, k19, k29, k39, k49, k59, k69⟩ := bx_cells B9.out
    obtain ⟨bx0, gx0⟩ := bx_set4 B9.out (t)
    have BA := Lib.hid bx0
    have CA := Lib.hid (C9.out.grown gx0 (fun k hk => by injection hk with hk; omega))
    have GA := Lib.hid (grown_row G9.out gx0 (fun k hk => by injection hk with hk; omega))
    have RA := Lib.hid (R9.out.grown gx0 (.inr (by simp [blockOf]; omega)))
    clear bx0 gx0 C9 G9 R9 B9
    obtain ⟨⟨q0A, q1A, q2A, q3A, q4A, q5A, q6A⟩, k0A, k1A, k2A, k3A, k4A, k5A, k6A⟩ := bx_cells BA.out
    obtain ⟨⟨r0, r1, r2, r3, r4, r5, r6⟩, z0, z1, z2, z3, z4, z5, z6⟩ := bx_cells RA.out
    obtain ⟨y0, g0⟩ := bx_set0 RA.out (1 + x)
    obtain ⟨y1, g1⟩ := bx_set1 y0 (h)
    obtain ⟨y2, g2⟩ := bx_set2 y1 (mo)
    obtain ⟨y3, g3⟩ := bx_set3 y2 (0)
    obtain ⟨y4, g4⟩ := bx_set4 y3 (t)
    obtain ⟨y5, g5⟩ := bx_set5 y4 (0)
    obtain ⟨y6, g6⟩ := bx_set6 y5 (false)
    have CF := Lib.hid ((CA.out.grown (grown_trans (grown_trans (grown_trans (grown_trans (grown_trans (grown_trans g0 g1) g2) g3) g4) g5) g6) (fun k hk => by injection hk with hk; omega)).le (K' := K + 30) (by omega))
    have GF := Lib.hid (grown_row GA.out (grown_trans (grown_trans (grown_trans (grown_trans (grown_trans (grown_trans g0 g1) g2) g3) g4) g5) g6) (fun k hk => by injection hk with hk; omega))
    obtain ⟨⟨v0, v1, v2, v3, v4, v5, v6⟩, -⟩ := bx_cells y6
    clear y0 y1 y2 y3 y4 y5 y6 g0 g1 g2 g3 g4 g5 g6
    go_wp2
    exact bodyPost_ret (v := .agg #[.int .i64 (1 + x), .string (h), .string (mo), .int .i64 (0), .int .i64 (t), .int .i64 (0), .bool (false)]) (by simp [results, Tryz.results26, go_sem, v0, v1, v2, v3, v4, v5, v6]) rfl ⟨⟨⟨1 + x, h, mo, 0, t, 0, false⟩, rfl, ⟨(show (h : ByteArray).size ≤ 24 from Nat.le_trans h_s (by omega)), (show (mo : ByteArray).size ≤ 24 from Xmo.out)⟩⟩, CF.out, GF.out⟩
  have es3 : (s == 3) = false := by simp; omega
  by_cases hs4 : s = 4
  · subst hs4
    obtain ⟨⟨q08, q18, q28, q38, q48, q58, q68⟩, k08, k18, k28, k38, k48, k58, k68⟩ := bx_cells B8.out
    obtain ⟨bx0, gx0⟩ := bx_set6 B8.out (true)
    have BA := Lib.hid bx0
    have CA := Lib.hid (C8.out.grown gx0 (fun k hk => by injection hk with hk; omega))
    have GA := Lib.hid (grown_row G8.out gx0 (fun k hk => by injection hk with hk; omega))
    have RA := Lib.hid (R8.out.grown gx0 (.inr (by simp [blockOf]; omega)))
    clear bx0 gx0 C8 G8 R8 B8
    obtain ⟨⟨q0A, q1A, q2A, q3A, q4A, q5A, q6A⟩, k0A, k1A, k2A, k3A, k4A, k5A, k6A⟩ := bx_cells BA.out
    obtain ⟨⟨r0, r1, r2, r3, r4, r5, r6⟩, z0, z1, z2, z3, z4, z5, z6⟩ := bx_cells RA.out
    obtain ⟨y0, g0⟩ := bx_set0 RA.out (1 + x)
    obtain ⟨y1, g1⟩ := bx_set1 y0 (h)
    obtain ⟨y2, g2⟩ := bx_set2 y1 (mo)
    obtain ⟨y3, g3⟩ := bx_set3 y2 (0)
    obtain ⟨y4, g4⟩ := bx_set4 y3 (0)
    obtain ⟨y5, g5⟩ := bx_set5 y4 (0)
    obtain ⟨y6, g6⟩ := bx_set6 y5 (true)
    have CF := Lib.hid ((CA.out.grown (grown_trans (grown_trans (grown_trans (grown_trans (grown_trans (grown_trans g0 g1) g2) g3) g4) g5) g6) (fun k hk => by injection hk with hk; omega)).le (K' := K + 30) (by omega))
    have GF := Lib.hid (grown_row GA.out (grown_trans (grown_trans (grown_trans (grown_trans (grown_trans (grown_trans g0 g1) g2) g3) g4) g5) g6) (fun k hk => by injection hk with hk; omega))
    obtain ⟨⟨v0, v1, v2, v3, v4, v5, v6⟩, -⟩ := bx_cells y6
    clear y0 y1 y2 y3 y4 y5 y6 g0 g1 g2 g3 g4 g5 g6
    go_wp2
    exact bodyPost_ret (v := .agg #[.int .i64 (1 + x), .string (h), .string (mo), .int .i64 (0), .int .i64 (0), .int .i64 (0), .bool (true)]) (by simp [results, Tryz.results26, go_sem, v0, v1, v2, v3, v4, v5, v6]) rfl ⟨⟨⟨1 + x, h, mo, 0, 0, 0, true⟩, rfl, ⟨(show (h : ByteArray).size ≤ 24 from Nat.le_trans h_s (by omega)), (show (mo : ByteArray).size ≤ 24 from Xmo.out)⟩⟩, CF.out, GF.out⟩
  have es4 : (s == 4) = false := by simp; omega
  obtain ⟨⟨q08, q18, q28, q38, q48, q58, q68⟩, k08, k18, k28, k38, k48, k58, k68⟩ := bx_cells B8.out
  obtain ⟨⟨r0, r1, r2, r3, r4, r5, r6⟩, z0, z1, z2, z3, z4, z5, z6⟩ := bx_cells R8.out
  obtain ⟨y0, g0⟩ := bx_set0 R8.out (1 + x)
  obtain ⟨y1, g1⟩ := bx_set1 y0 (h)
  obtain ⟨y2, g2⟩ := bx_set2 y1 (mo)
  obtain ⟨y3, g3⟩ := bx_set3 y2 (0)
  obtain ⟨y4, g4⟩ := bx_set4 y3 (0)
  obtain ⟨y5, g5⟩ := bx_set5 y4 (0)
  obtain ⟨y6, g6⟩ := bx_set6 y5 (false)
  have CF := Lib.hid ((C8.out.grown (grown_trans (grown_trans (grown_trans (grown_trans (grown_trans (grown_trans g0 g1) g2) g3) g4) g5) g6) (fun k hk => by injection hk with hk; omega)).le (K' := K + 30) (by omega))
  have GF := Lib.hid (grown_row G8.out (grown_trans (grown_trans (grown_trans (grown_trans (grown_trans (grown_trans g0 g1) g2) g3) g4) g5) g6) (fun k hk => by injection hk with hk; omega))
  obtain ⟨⟨v0, v1, v2, v3, v4, v5, v6⟩, -⟩ := bx_cells y6
  clear y0 y1 y2 y3 y4 y5 y6 g0 g1 g2 g3 g4 g5 g6
  go_wp2
  exact bodyPost_ret (v := .agg #[.int .i64 (1 + x), .string (h), .string (mo), .int .i64 (0), .int .i64 (0), .int .i64 (0), .bool (false)]) (by simp [results, Tryz.results26, go_sem, v0, v1, v2, v3, v4, v5, v6]) rfl ⟨⟨⟨1 + x, h, mo, 0, 0, 0, false⟩, rfl, ⟨(show (h : ByteArray).size ≤ 24 from Nat.le_trans h_s (by omega)), (show (mo : ByteArray).size ≤ 24 from Xmo.out)⟩⟩, CF.out, GF.out⟩


end Go.Proofs.YthphjncgbaknnaaGreatDoor
