/-
  YtjeldedmaanhbaaRulG: rulings: the draws of votes. (Printed by wip/gen/rulg.py.)
-/
import Derived.Test.YtjeldedmaanhbaaRulF
namespace Go.Proofs.Ytjeldedmaanhbaa
open Go Go.RowKit Go.Sort
set_option linter.unusedVariables false

/-- A new block as a row of one element. -/
theorem own_one {α : Type} {enc : α → List Value} {sz : Nat} (w : World) (cs : Array Value) (e : TypeId) (y : α) (hcs : cs.toList = enc y) (he : (enc y).length = sz) : Own enc sz (w.alloc (.cells cs e)) w.heap.size e (some ⟨w.heap.size, 0, none⟩) 1 1 [y] :=
  ⟨rfl, by
    have := World.ownsRow_lit (base := w.heap.size) (e := e) (size := sz) w cs 1 (Nat.le_refl _) (by simp [maxLen]) (by rw [Nat.one_mul, ← he, ← hcs, Array.length_toList])
    rw [hcs] at this
    simpa using this⟩
theorem Own.ne_block {α β : Type} {enc : α → List Value} {enc' : β → List Value} {sz sz' : Nat} {w : World} {base base' : Nat} {e e' : TypeId} {A A' : Option Addr} {n c n' c' : Nat} {l : List α} {l' : List β} (h : Own enc sz w base e A n c l) (h' : Own enc' sz' w base' e' A' n' c' l') (he : e ≠ e') : blockOf A = none ∨ blockOf A ≠ blockOf A' := by
  rcases h.row.2 with ⟨h0, _⟩ | ⟨g, cap, cur, hv, hb, hg, _⟩
  · injection h0 with h0; subst h0; exact .inl rfl
  · injection hv with hv; subst hv
    right
    intro hE
    rcases h'.row.2 with ⟨h0, _⟩ | ⟨g', cap', cur', hv', hb', hg', _⟩
    · injection h0 with h0; subst h0; simp [blockOf] at hE
    · injection hv' with hv'; subst hv'
      have e1 : g = g' := by simpa [blockOf] using hE
      subst e1
      rw [hg] at hg'
      injection hg' with hg'
      injection hg' with _ h2
      exact he h2
theorem least_spec (x y : Int) (w : World) : Calls Try.prog 78 #[.int .i64 x, .int .i64 y] w fun e w' => (∃ z, e = .returned (.int .i64 z)) ∧ w = w' := by
  by_cases h : x < y
  · go_enter Try.func78, Try.ntmps78
    go_wp2
    go_ret
    exact ⟨⟨_, rfl⟩, rfl⟩
  · go_enter Try.func78, Try.ntmps78
    go_wp2
    go_ret
    exact ⟨⟨_, rfl⟩, rfl⟩
theorem ta_cells {w : World} {base b : Nat} {e : TypeId} {y n a : Int} (h : Own taV 3 w base e (some ⟨b, 0, none⟩) 1 1 [⟨y, n, a⟩]) :
    (w.cell? ⟨b, 0, none⟩ = some (.int .i64 y) ∧ w.cell? ⟨b, 1, none⟩ = some (.int .i64 n) ∧ w.cell? ⟨b, 2, none⟩ = some (.int .i64 a)) ∧ w.frozen? ⟨b, 0, none⟩ = false ∧ w.frozen? ⟨b, 1, none⟩ = false ∧ w.frozen? ⟨b, 2, none⟩ = false :=
  ⟨⟨by simpa using h.cell taV_len (i := 0) (j := 0) rfl rfl, by simpa using h.cell taV_len (i := 0) (j := 1) rfl rfl, by simpa using h.cell taV_len (i := 0) (j := 2) rfl rfl⟩, h.frozen 0, h.frozen 1, h.frozen 2⟩
theorem ta_set0 {w : World} {base b : Nat} {e : TypeId} {y n a : Int} (h : Own taV 3 w base e (some ⟨b, 0, none⟩) 1 1 [⟨y, n, a⟩]) (z : Int) : Own taV 3 (w.setCell ⟨b, 0, none⟩ (.int .i64 z)) base e (some ⟨b, 0, none⟩) 1 1 [⟨z, n, a⟩] ∧ w.grownBy (w.setCell ⟨b, 0, none⟩ (.int .i64 z)) (some b) := by
  simpa using h.store taV_len (i := 0) (j := 0) rfl (by omega) (⟨z, n, a⟩ : TA) (.int .i64 z) rfl
theorem ta_set1 {w : World} {base b : Nat} {e : TypeId} {y n a : Int} (h : Own taV 3 w base e (some ⟨b, 0, none⟩) 1 1 [⟨y, n, a⟩]) (z : Int) : Own taV 3 (w.setCell ⟨b, 1, none⟩ (.int .i64 z)) base e (some ⟨b, 0, none⟩) 1 1 [⟨y, z, a⟩] ∧ w.grownBy (w.setCell ⟨b, 1, none⟩ (.int .i64 z)) (some b) := by
  simpa using h.store taV_len (i := 0) (j := 1) rfl (by omega) (⟨y, z, a⟩ : TA) (.int .i64 z) rfl
theorem ta_set2 {w : World} {base b : Nat} {e : TypeId} {y n a : Int} (h : Own taV 3 w base e (some ⟨b, 0, none⟩) 1 1 [⟨y, n, a⟩]) (z : Int) : Own taV 3 (w.setCell ⟨b, 2, none⟩ (.int .i64 z)) base e (some ⟨b, 0, none⟩) 1 1 [⟨y, n, z⟩] ∧ w.grownBy (w.setCell ⟨b, 2, none⟩ (.int .i64 z)) (some b) := by
  simpa using h.store taV_len (i := 0) (j := 2) rfl (by omega) (⟨y, n, z⟩ : TA) (.int .i64 z) rfl


set_option maxRecDepth 100000 in
set_option maxHeartbeats 4000000 in
theorem tally_any (g K : Nat) (w : World) (h : Cur w g K) (hK : K ≤ 100000) : Calls Try.prog 66 #[.pointer (some ⟨g, 0, none⟩)] w fun e w' => (∃ y n a : Int, e = .returned (.agg #[.int .i64 y, .int .i64 n, .int .i64 a])) ∧ Cur w' g (K + 20) ∧ w.grownBy w' (some g) := by
  have hgw := h.lt
  have R0 := Lib.hid (own_one (enc := taV) w #[.int .i64 0, .int .i64 0, .int .i64 0] 43 (⟨0, 0, 0⟩ : TA) rfl rfl)
  have C0 := Lib.hid (h.below (below_alloc (.cells #[.int .i64 0, .int .i64 0, .int .i64 0] 43)))
  have G0 := Lib.hid (grown_of_below (below_alloc (w := w) (.cells #[.int .i64 0, .int .i64 0, .int .i64 0] 43)) (some g))
  clear h
  go_enter Try.func66, Try.ntmps66
  go_wp2_with fail
  refine (votes_any g K _ C0.out (by omega)).mono ?_
  rintro e w1 ⟨⟨y, rfl, y0, y1⟩, hc, hg⟩
  have C1 := Lib.hid hc
  have G1 := Lib.hid (grown_trans G0.out hg)
  have R1 := Lib.hid (R0.out.cur hg hgw)
  clear hc hg C0 G0 R0
  go_wp2_with fail
  refine (votes_any g (K + 2) _ C1.out (by omega)).mono ?_
  rintro e w2 ⟨⟨n, rfl, n0, n1⟩, hc, hg⟩
  have C2 := Lib.hid hc
  have G2 := Lib.hid (grown_trans G1.out hg)
  have R2 := Lib.hid (R1.out.cur hg hgw)
  clear hc hg C1 G1 R1
  have Cq := Lib.hid (C2.out.below (below_alloc (.cells #[.int .i64 0, .int .i64 0, .int .i64 1, .int .i64 7, .int .i64 1000] 3)))
  have Gq := Lib.hid (grown_below G2.out (below_alloc (.cells #[.int .i64 0, .int .i64 0, .int .i64 1, .int .i64 7, .int .i64 1000] 3)))
  have Rq := Lib.hid (R2.out.below (below_alloc (.cells #[.int .i64 0, .int .i64 0, .int .i64 1, .int .i64 7, .int .i64 1000] 3)))
  have Aq := Lib.hid (rd_lit (w := w2.alloc (.cells #[.int .i64 0, .int .i64 0, .int .i64 1, .int .i64 7, .int .i64 1000] 3)) (k := w2.heap.size) (n := 5) (l := ([0, 0, 1, 7, 1000] : List Int)) (enc := inV) (heap_new rfl) inV_len rfl (by simp [maxLen]) rfl)
  have hgs : g < w2.heap.size := C2.out.lt
  go_wp2_with fail
  refine (among_any g (K + 4) _ 5 5 _ _ Cq.out (by omega) Aq.out (by omega) (by omega) (fun a ha => by injection ha with ha; subst ha; first | omega | (simp; omega) | (simp at hgs ⊢; omega))).mono ?_
  rintro e w3 ⟨⟨a, rfl, hx⟩, hc, hg⟩
  have C3 := Lib.hid hc
  have G3 := Lib.hid (grown_trans Gq.out hg)
  have R3 := Lib.hid (Rq.out.cur hg hgw)
  clear hx hc hg hgs Cq Gq Aq C2 G2 Rq R2
  have hw3 := G3.out.size
  have B4 := Lib.hid ((own_one (enc := taV) w3 #[.int .i64 y, .int .i64 n, .int .i64 a] 43 (⟨y, n, a⟩ : TA) rfl rfl).base_le (b := w.heap.size) hw3)
  have C4 := Lib.hid (C3.out.below (below_alloc (.cells #[.int .i64 y, .int .i64 n, .int .i64 a] 43)))
  have G4 := Lib.hid (grown_below G3.out (below_alloc (.cells #[.int .i64 y, .int .i64 n, .int .i64 a] 43)))
  have R4 := Lib.hid (R3.out.below (below_alloc (.cells #[.int .i64 y, .int .i64 n, .int .i64 a] 43)))
  have hwb : w.heap.size < w3.heap.size := by have := (R3.out.lt (k := w.heap.size) rfl).2; exact this
  clear C3 G3 R3
  go_wp2_with fail
  refine (pick_any g (K + 6) 6 _ C4.out (by omega) (by omega) (by omega)).mono ?_
  rintro e w5 ⟨⟨s, rfl, s_0, s_1⟩, hc, hg⟩
  have C5 := Lib.hid hc
  have G5 := Lib.hid (grown_trans G4.out hg)
  have R5 := Lib.hid (R4.out.cur hg hgw)
  have B5 := Lib.hid (B4.out.cur hg hgw)
  clear hc hg C4 G4 R4 B4
  have hwb5 := (B5.out.lt (k := w3.heap.size) rfl).2
  have hgb : g < w3.heap.size := by omega
  obtain ⟨⟨c0, c1, c2⟩, f0, f1, f2⟩ := ta_cells B5.out
  by_cases hs0 : s = 0
  · subst hs0
    obtain ⟨bx, gx⟩ := ta_set0 B5.out (n)
    have B7 := Lib.hid bx
    have C7 := Lib.hid (C5.out.grown gx (fun k hk => by injection hk with hk; omega))
    have G7 := Lib.hid (grown_row G5.out gx (fun k hk => by injection hk with hk; omega))
    have R7 := Lib.hid (R5.out.grown gx (.inr (by simp [blockOf]; omega)))
    clear bx gx
    clear B5 C5 G5 R5
    go_wp2_with fail
    refine (pick_any g (K + 8) 24 _ C7.out (by omega) (by omega) (by omega)).mono ?_
    rintro e w8 ⟨⟨t, rfl, t_0, t_1⟩, hc, hg⟩
    have C8 := Lib.hid hc
    have G8 := Lib.hid (grown_trans G7.out hg)
    have R8 := Lib.hid (R7.out.cur hg hgw)
    have B8 := Lib.hid (B7.out.cur hg hgw)
    clear hc hg C7 G7 R7 B7
    by_cases ht0 : t = 0
    · subst ht0
      have Cq := Lib.hid (C8.out.below (below_alloc (.cells #[.int .i64 (-1), .int .i64 1001] 3)))
      have Gq := Lib.hid (grown_below G8.out (below_alloc (.cells #[.int .i64 (-1), .int .i64 1001] 3)))
      have Rq := Lib.hid (R8.out.below (below_alloc (.cells #[.int .i64 (-1), .int .i64 1001] 3)))
      have Bq := Lib.hid (B8.out.below (below_alloc (.cells #[.int .i64 (-1), .int .i64 1001] 3)))
      have Aq := Lib.hid (rd_lit (w := w8.alloc (.cells #[.int .i64 (-1), .int .i64 1001] 3)) (k := w8.heap.size) (n := 2) (l := ([(-1), 1001] : List Int)) (enc := inV) (heap_new rfl) inV_len rfl (by simp [maxLen]) rfl)
      have hgs : g < w8.heap.size := C8.out.lt
      go_wp2_with fail
      refine (among_any g (K + 10) _ 2 2 _ _ Cq.out (by omega) Aq.out (by omega) (by omega) (fun a ha => by injection ha with ha; subst ha; first | omega | (simp; omega) | (simp at hgs ⊢; omega))).mono ?_
      rintro e w9 ⟨⟨u, rfl, hx⟩, hc, hg⟩
      have C9 := Lib.hid hc
      have G9 := Lib.hid (grown_trans Gq.out hg)
      have R9 := Lib.hid (Rq.out.cur hg hgw)
      have B9 := Lib.hid (Bq.out.cur hg hgw)
      clear hx hc hg hgs Cq Gq Aq C8 G8 Rq R8 Bq B8
      obtain ⟨⟨q0', q1', q2'⟩, k0, k1, k2⟩ := ta_cells B9.out
      obtain ⟨bx, gx⟩ := ta_set0 B9.out (u)
      have BA := Lib.hid bx
      have CA := Lib.hid (C9.out.grown gx (fun k hk => by injection hk with hk; omega))
      have GA := Lib.hid (grown_row G9.out gx (fun k hk => by injection hk with hk; omega))
      have RA := Lib.hid (R9.out.grown gx (.inr (by simp [blockOf]; omega)))
      clear bx gx
      clear B9 C9 G9 R9
      obtain ⟨⟨q0, q1, q2⟩, -⟩ := ta_cells BA.out
      obtain ⟨⟨r0, r1, r2⟩, z0, z1, z2⟩ := ta_cells RA.out
      obtain ⟨x1, g1⟩ := ta_set0 RA.out (u)
      obtain ⟨x2, g2⟩ := ta_set1 x1 (n)
      obtain ⟨x3, g3⟩ := ta_set2 x2 (a)
      have CF := Lib.hid ((CA.out.grown (grown_trans (grown_trans g1 g2) g3) (fun k hk => by injection hk with hk; omega)).le (K' := K + 20) (by omega))
      have GF := Lib.hid (grown_row GA.out (grown_trans (grown_trans g1 g2) g3) (fun k hk => by injection hk with hk; omega))
      obtain ⟨⟨v0, v1, v2⟩, -⟩ := ta_cells x3
      clear x1 x2 x3 g1 g2 g3
      go_wp2
      exact bodyPost_ret (v := .agg #[.int .i64 (u), .int .i64 (n), .int .i64 (a)]) (by simp [results, Try.results66, go_sem, v0, v1, v2]) rfl ⟨⟨_, _, _, rfl⟩, CF.out, GF.out⟩
    have e0 : (t == 0) = false := by simp; omega
    by_cases ht1 : t = 1
    · subst ht1
      have Cq := Lib.hid (C8.out.below (below_alloc (.cells #[.int .i64 (-1), .int .i64 1001] 3)))
      have Gq := Lib.hid (grown_below G8.out (below_alloc (.cells #[.int .i64 (-1), .int .i64 1001] 3)))
      have Rq := Lib.hid (R8.out.below (below_alloc (.cells #[.int .i64 (-1), .int .i64 1001] 3)))
      have Bq := Lib.hid (B8.out.below (below_alloc (.cells #[.int .i64 (-1), .int .i64 1001] 3)))
      have Aq := Lib.hid (rd_lit (w := w8.alloc (.cells #[.int .i64 (-1), .int .i64 1001] 3)) (k := w8.heap.size) (n := 2) (l := ([(-1), 1001] : List Int)) (enc := inV) (heap_new rfl) inV_len rfl (by simp [maxLen]) rfl)
      have hgs : g < w8.heap.size := C8.out.lt
      go_wp2_with fail
      refine (among_any g (K + 10) _ 2 2 _ _ Cq.out (by omega) Aq.out (by omega) (by omega) (fun a ha => by injection ha with ha; subst ha; first | omega | (simp; omega) | (simp at hgs ⊢; omega))).mono ?_
      rintro e w9 ⟨⟨u, rfl, hx⟩, hc, hg⟩
      have C9 := Lib.hid hc
      have G9 := Lib.hid (grown_trans Gq.out hg)
      have R9 := Lib.hid (Rq.out.cur hg hgw)
      have B9 := Lib.hid (Bq.out.cur hg hgw)
      clear hx hc hg hgs Cq Gq Aq C8 G8 Rq R8 Bq B8
      obtain ⟨⟨q0', q1', q2'⟩, k0, k1, k2⟩ := ta_cells B9.out
      obtain ⟨bx, gx⟩ := ta_set2 B9.out (u)
      have BA := Lib.hid bx
      have CA := Lib.hid (C9.out.grown gx (fun k hk => by injection hk with hk; omega))
      have GA := Lib.hid (grown_row G9.out gx (fun k hk => by injection hk with hk; omega))
      have RA := Lib.hid (R9.out.grown gx (.inr (by simp [blockOf]; omega)))
      clear bx gx
      clear B9 C9 G9 R9
      obtain ⟨⟨q0, q1, q2⟩, -⟩ := ta_cells BA.out
      obtain ⟨⟨r0, r1, r2⟩, z0, z1, z2⟩ := ta_cells RA.out
      obtain ⟨x1, g1⟩ := ta_set0 RA.out (n)
      obtain ⟨x2, g2⟩ := ta_set1 x1 (n)
      obtain ⟨x3, g3⟩ := ta_set2 x2 (u)
      have CF := Lib.hid ((CA.out.grown (grown_trans (grown_trans g1 g2) g3) (fun k hk => by injection hk with hk; omega)).le (K' := K + 20) (by omega))
      have GF := Lib.hid (grown_row GA.out (grown_trans (grown_trans g1 g2) g3) (fun k hk => by injection hk with hk; omega))
      obtain ⟨⟨v0, v1, v2⟩, -⟩ := ta_cells x3
      clear x1 x2 x3 g1 g2 g3
      go_wp2
      exact bodyPost_ret (v := .agg #[.int .i64 (n), .int .i64 (n), .int .i64 (u)]) (by simp [results, Try.results66, go_sem, v0, v1, v2]) rfl ⟨⟨_, _, _, rfl⟩, CF.out, GF.out⟩
    have e1 : (t == 1) = false := by simp; omega
    obtain ⟨⟨q0, q1, q2⟩, -⟩ := ta_cells B8.out
    obtain ⟨⟨r0, r1, r2⟩, z0, z1, z2⟩ := ta_cells R8.out
    obtain ⟨x1, g1⟩ := ta_set0 R8.out (n)
    obtain ⟨x2, g2⟩ := ta_set1 x1 (n)
    obtain ⟨x3, g3⟩ := ta_set2 x2 (a)
    have CF := Lib.hid ((C8.out.grown (grown_trans (grown_trans g1 g2) g3) (fun k hk => by injection hk with hk; omega)).le (K' := K + 20) (by omega))
    have GF := Lib.hid (grown_row G8.out (grown_trans (grown_trans g1 g2) g3) (fun k hk => by injection hk with hk; omega))
    obtain ⟨⟨v0, v1, v2⟩, -⟩ := ta_cells x3
    clear x1 x2 x3 g1 g2 g3
    go_wp2
    exact bodyPost_ret (v := .agg #[.int .i64 (n), .int .i64 (n), .int .i64 (a)]) (by simp [results, Try.results66, go_sem, v0, v1, v2]) rfl ⟨⟨_, _, _, rfl⟩, CF.out, GF.out⟩
  have e0 : (s == 0) = false := by simp; omega
  by_cases hs1 : s = 1
  · subst hs1
    go_wp2_with fail
    refine (least_spec 1000 (2 * n) _).mono ?_
    rintro e wx ⟨⟨z, rfl⟩, rfl⟩
    obtain ⟨bx, gx⟩ := ta_set0 B5.out (z)
    have B7 := Lib.hid bx
    have C7 := Lib.hid (C5.out.grown gx (fun k hk => by injection hk with hk; omega))
    have G7 := Lib.hid (grown_row G5.out gx (fun k hk => by injection hk with hk; omega))
    have R7 := Lib.hid (R5.out.grown gx (.inr (by simp [blockOf]; omega)))
    clear bx gx
    clear B5 C5 G5 R5
    go_wp2_with fail
    refine (pick_any g (K + 8) 24 _ C7.out (by omega) (by omega) (by omega)).mono ?_
    rintro e w8 ⟨⟨t, rfl, t_0, t_1⟩, hc, hg⟩
    have C8 := Lib.hid hc
    have G8 := Lib.hid (grown_trans G7.out hg)
    have R8 := Lib.hid (R7.out.cur hg hgw)
    have B8 := Lib.hid (B7.out.cur hg hgw)
    clear hc hg C7 G7 R7 B7
    by_cases ht0 : t = 0
    · subst ht0
      have Cq := Lib.hid (C8.out.below (below_alloc (.cells #[.int .i64 (-1), .int .i64 1001] 3)))
      have Gq := Lib.hid (grown_below G8.out (below_alloc (.cells #[.int .i64 (-1), .int .i64 1001] 3)))
      have Rq := Lib.hid (R8.out.below (below_alloc (.cells #[.int .i64 (-1), .int .i64 1001] 3)))
      have Bq := Lib.hid (B8.out.below (below_alloc (.cells #[.int .i64 (-1), .int .i64 1001] 3)))
      have Aq := Lib.hid (rd_lit (w := w8.alloc (.cells #[.int .i64 (-1), .int .i64 1001] 3)) (k := w8.heap.size) (n := 2) (l := ([(-1), 1001] : List Int)) (enc := inV) (heap_new rfl) inV_len rfl (by simp [maxLen]) rfl)
      have hgs : g < w8.heap.size := C8.out.lt
      go_wp2_with fail
      refine (among_any g (K + 10) _ 2 2 _ _ Cq.out (by omega) Aq.out (by omega) (by omega) (fun a ha => by injection ha with ha; subst ha; first | omega | (simp; omega) | (simp at hgs ⊢; omega))).mono ?_
      rintro e w9 ⟨⟨u, rfl, hx⟩, hc, hg⟩
      have C9 := Lib.hid hc
      have G9 := Lib.hid (grown_trans Gq.out hg)
      have R9 := Lib.hid (Rq.out.cur hg hgw)
      have B9 := Lib.hid (Bq.out.cur hg hgw)
      clear hx hc hg hgs Cq Gq Aq C8 G8 Rq R8 Bq B8
      obtain ⟨⟨q0', q1', q2'⟩, k0, k1, k2⟩ := ta_cells B9.out
      obtain ⟨bx, gx⟩ := ta_set0 B9.out (u)
      have BA := Lib.hid bx
      have CA := Lib.hid (C9.out.grown gx (fun k hk => by injection hk with hk; omega))
      have GA := Lib.hid (grown_row G9.out gx (fun k hk => by injection hk with hk; omega))
      have RA := Lib.hid (R9.out.grown gx (.inr (by simp [blockOf]; omega)))
      clear bx gx
      clear B9 C9 G9 R9
      obtain ⟨⟨q0, q1, q2⟩, -⟩ := ta_cells BA.out
      obtain ⟨⟨r0, r1, r2⟩, z0, z1, z2⟩ := ta_cells RA.out
      obtain ⟨x1, g1⟩ := ta_set0 RA.out (u)
      obtain ⟨x2, g2⟩ := ta_set1 x1 (n)
      obtain ⟨x3, g3⟩ := ta_set2 x2 (a)
      have CF := Lib.hid ((CA.out.grown (grown_trans (grown_trans g1 g2) g3) (fun k hk => by injection hk with hk; omega)).le (K' := K + 20) (by omega))
      have GF := Lib.hid (grown_row GA.out (grown_trans (grown_trans g1 g2) g3) (fun k hk => by injection hk with hk; omega))
      obtain ⟨⟨v0, v1, v2⟩, -⟩ := ta_cells x3
      clear x1 x2 x3 g1 g2 g3
      go_wp2
      exact bodyPost_ret (v := .agg #[.int .i64 (u), .int .i64 (n), .int .i64 (a)]) (by simp [results, Try.results66, go_sem, v0, v1, v2]) rfl ⟨⟨_, _, _, rfl⟩, CF.out, GF.out⟩
    have e0 : (t == 0) = false := by simp; omega
    by_cases ht1 : t = 1
    · subst ht1
      have Cq := Lib.hid (C8.out.below (below_alloc (.cells #[.int .i64 (-1), .int .i64 1001] 3)))
      have Gq := Lib.hid (grown_below G8.out (below_alloc (.cells #[.int .i64 (-1), .int .i64 1001] 3)))
      have Rq := Lib.hid (R8.out.below (below_alloc (.cells #[.int .i64 (-1), .int .i64 1001] 3)))
      have Bq := Lib.hid (B8.out.below (below_alloc (.cells #[.int .i64 (-1), .int .i64 1001] 3)))
      have Aq := Lib.hid (rd_lit (w := w8.alloc (.cells #[.int .i64 (-1), .int .i64 1001] 3)) (k := w8.heap.size) (n := 2) (l := ([(-1), 1001] : List Int)) (enc := inV) (heap_new rfl) inV_len rfl (by simp [maxLen]) rfl)
      have hgs : g < w8.heap.size := C8.out.lt
      go_wp2_with fail
      refine (among_any g (K + 10) _ 2 2 _ _ Cq.out (by omega) Aq.out (by omega) (by omega) (fun a ha => by injection ha with ha; subst ha; first | omega | (simp; omega) | (simp at hgs ⊢; omega))).mono ?_
      rintro e w9 ⟨⟨u, rfl, hx⟩, hc, hg⟩
      have C9 := Lib.hid hc
      have G9 := Lib.hid (grown_trans Gq.out hg)
      have R9 := Lib.hid (Rq.out.cur hg hgw)
      have B9 := Lib.hid (Bq.out.cur hg hgw)
      clear hx hc hg hgs Cq Gq Aq C8 G8 Rq R8 Bq B8
      obtain ⟨⟨q0', q1', q2'⟩, k0, k1, k2⟩ := ta_cells B9.out
      obtain ⟨bx, gx⟩ := ta_set2 B9.out (u)
      have BA := Lib.hid bx
      have CA := Lib.hid (C9.out.grown gx (fun k hk => by injection hk with hk; omega))
      have GA := Lib.hid (grown_row G9.out gx (fun k hk => by injection hk with hk; omega))
      have RA := Lib.hid (R9.out.grown gx (.inr (by simp [blockOf]; omega)))
      clear bx gx
      clear B9 C9 G9 R9
      obtain ⟨⟨q0, q1, q2⟩, -⟩ := ta_cells BA.out
      obtain ⟨⟨r0, r1, r2⟩, z0, z1, z2⟩ := ta_cells RA.out
      obtain ⟨x1, g1⟩ := ta_set0 RA.out (z)
      obtain ⟨x2, g2⟩ := ta_set1 x1 (n)
      obtain ⟨x3, g3⟩ := ta_set2 x2 (u)
      have CF := Lib.hid ((CA.out.grown (grown_trans (grown_trans g1 g2) g3) (fun k hk => by injection hk with hk; omega)).le (K' := K + 20) (by omega))
      have GF := Lib.hid (grown_row GA.out (grown_trans (grown_trans g1 g2) g3) (fun k hk => by injection hk with hk; omega))
      obtain ⟨⟨v0, v1, v2⟩, -⟩ := ta_cells x3
      clear x1 x2 x3 g1 g2 g3
      go_wp2
      exact bodyPost_ret (v := .agg #[.int .i64 (z), .int .i64 (n), .int .i64 (u)]) (by simp [results, Try.results66, go_sem, v0, v1, v2]) rfl ⟨⟨_, _, _, rfl⟩, CF.out, GF.out⟩
    have e1 : (t == 1) = false := by simp; omega
    obtain ⟨⟨q0, q1, q2⟩, -⟩ := ta_cells B8.out
    obtain ⟨⟨r0, r1, r2⟩, z0, z1, z2⟩ := ta_cells R8.out
    obtain ⟨x1, g1⟩ := ta_set0 R8.out (z)
    obtain ⟨x2, g2⟩ := ta_set1 x1 (n)
    obtain ⟨x3, g3⟩ := ta_set2 x2 (a)
    have CF := Lib.hid ((C8.out.grown (grown_trans (grown_trans g1 g2) g3) (fun k hk => by injection hk with hk; omega)).le (K' := K + 20) (by omega))
    have GF := Lib.hid (grown_row G8.out (grown_trans (grown_trans g1 g2) g3) (fun k hk => by injection hk with hk; omega))
    obtain ⟨⟨v0, v1, v2⟩, -⟩ := ta_cells x3
    clear x1 x2 x3 g1 g2 g3
    go_wp2
    exact bodyPost_ret (v := .agg #[.int .i64 (z), .int .i64 (n), .int .i64 (a)]) (by simp [results, Try.results66, go_sem, v0, v1, v2]) rfl ⟨⟨_, _, _, rfl⟩, CF.out, GF.out⟩
  have e1 : (s == 1) = false := by simp; omega
  by_cases hs2 : s = 2
  · subst hs2
    obtain ⟨bx, gx⟩ := ta_set1 B5.out (0)
    have B7 := Lib.hid bx
    have C7 := Lib.hid (C5.out.grown gx (fun k hk => by injection hk with hk; omega))
    have G7 := Lib.hid (grown_row G5.out gx (fun k hk => by injection hk with hk; omega))
    have R7 := Lib.hid (R5.out.grown gx (.inr (by simp [blockOf]; omega)))
    clear bx gx
    clear B5 C5 G5 R5
    go_wp2_with fail
    refine (pick_any g (K + 8) 24 _ C7.out (by omega) (by omega) (by omega)).mono ?_
    rintro e w8 ⟨⟨t, rfl, t_0, t_1⟩, hc, hg⟩
    have C8 := Lib.hid hc
    have G8 := Lib.hid (grown_trans G7.out hg)
    have R8 := Lib.hid (R7.out.cur hg hgw)
    have B8 := Lib.hid (B7.out.cur hg hgw)
    clear hc hg C7 G7 R7 B7
    by_cases ht0 : t = 0
    · subst ht0
      have Cq := Lib.hid (C8.out.below (below_alloc (.cells #[.int .i64 (-1), .int .i64 1001] 3)))
      have Gq := Lib.hid (grown_below G8.out (below_alloc (.cells #[.int .i64 (-1), .int .i64 1001] 3)))
      have Rq := Lib.hid (R8.out.below (below_alloc (.cells #[.int .i64 (-1), .int .i64 1001] 3)))
      have Bq := Lib.hid (B8.out.below (below_alloc (.cells #[.int .i64 (-1), .int .i64 1001] 3)))
      have Aq := Lib.hid (rd_lit (w := w8.alloc (.cells #[.int .i64 (-1), .int .i64 1001] 3)) (k := w8.heap.size) (n := 2) (l := ([(-1), 1001] : List Int)) (enc := inV) (heap_new rfl) inV_len rfl (by simp [maxLen]) rfl)
      have hgs : g < w8.heap.size := C8.out.lt
      go_wp2_with fail
      refine (among_any g (K + 10) _ 2 2 _ _ Cq.out (by omega) Aq.out (by omega) (by omega) (fun a ha => by injection ha with ha; subst ha; first | omega | (simp; omega) | (simp at hgs ⊢; omega))).mono ?_
      rintro e w9 ⟨⟨u, rfl, hx⟩, hc, hg⟩
      have C9 := Lib.hid hc
      have G9 := Lib.hid (grown_trans Gq.out hg)
      have R9 := Lib.hid (Rq.out.cur hg hgw)
      have B9 := Lib.hid (Bq.out.cur hg hgw)
      clear hx hc hg hgs Cq Gq Aq C8 G8 Rq R8 Bq B8
      obtain ⟨⟨q0', q1', q2'⟩, k0, k1, k2⟩ := ta_cells B9.out
      obtain ⟨bx, gx⟩ := ta_set0 B9.out (u)
      have BA := Lib.hid bx
      have CA := Lib.hid (C9.out.grown gx (fun k hk => by injection hk with hk; omega))
      have GA := Lib.hid (grown_row G9.out gx (fun k hk => by injection hk with hk; omega))
      have RA := Lib.hid (R9.out.grown gx (.inr (by simp [blockOf]; omega)))
      clear bx gx
      clear B9 C9 G9 R9
      obtain ⟨⟨q0, q1, q2⟩, -⟩ := ta_cells BA.out
      obtain ⟨⟨r0, r1, r2⟩, z0, z1, z2⟩ := ta_cells RA.out
      obtain ⟨x1, g1⟩ := ta_set0 RA.out (u)
      obtain ⟨x2, g2⟩ := ta_set1 x1 (0)
      obtain ⟨x3, g3⟩ := ta_set2 x2 (a)
      have CF := Lib.hid ((CA.out.grown (grown_trans (grown_trans g1 g2) g3) (fun k hk => by injection hk with hk; omega)).le (K' := K + 20) (by omega))
      have GF := Lib.hid (grown_row GA.out (grown_trans (grown_trans g1 g2) g3) (fun k hk => by injection hk with hk; omega))
      obtain ⟨⟨v0, v1, v2⟩, -⟩ := ta_cells x3
      clear x1 x2 x3 g1 g2 g3
      go_wp2
      exact bodyPost_ret (v := .agg #[.int .i64 (u), .int .i64 (0), .int .i64 (a)]) (by simp [results, Try.results66, go_sem, v0, v1, v2]) rfl ⟨⟨_, _, _, rfl⟩, CF.out, GF.out⟩
    have e0 : (t == 0) = false := by simp; omega
    by_cases ht1 : t = 1
    · subst ht1
      have Cq := Lib.hid (C8.out.below (below_alloc (.cells #[.int .i64 (-1), .int .i64 1001] 3)))
      have Gq := Lib.hid (grown_below G8.out (below_alloc (.cells #[.int .i64 (-1), .int .i64 1001] 3)))
      have Rq := Lib.hid (R8.out.below (below_alloc (.cells #[.int .i64 (-1), .int .i64 1001] 3)))
      have Bq := Lib.hid (B8.out.below (below_alloc (.cells #[.int .i64 (-1), .int .i64 1001] 3)))
      have Aq := Lib.hid (rd_lit (w := w8.alloc (.cells #[.int .i64 (-1), .int .i64 1001] 3)) (k := w8.heap.size) (n := 2) (l := ([(-1), 1001] : List Int)) (enc := inV) (heap_new rfl) inV_len rfl (by simp [maxLen]) rfl)
      have hgs : g < w8.heap.size := C8.out.lt
      go_wp2_with fail
      refine (among_any g (K + 10) _ 2 2 _ _ Cq.out (by omega) Aq.out (by omega) (by omega) (fun a ha => by injection ha with ha; subst ha; first | omega | (simp; omega) | (simp at hgs ⊢; omega))).mono ?_
      rintro e w9 ⟨⟨u, rfl, hx⟩, hc, hg⟩
      have C9 := Lib.hid hc
      have G9 := Lib.hid (grown_trans Gq.out hg)
      have R9 := Lib.hid (Rq.out.cur hg hgw)
      have B9 := Lib.hid (Bq.out.cur hg hgw)
      clear hx hc hg hgs Cq Gq Aq C8 G8 Rq R8 Bq B8
      obtain ⟨⟨q0', q1', q2'⟩, k0, k1, k2⟩ := ta_cells B9.out
      obtain ⟨bx, gx⟩ := ta_set2 B9.out (u)
      have BA := Lib.hid bx
      have CA := Lib.hid (C9.out.grown gx (fun k hk => by injection hk with hk; omega))
      have GA := Lib.hid (grown_row G9.out gx (fun k hk => by injection hk with hk; omega))
      have RA := Lib.hid (R9.out.grown gx (.inr (by simp [blockOf]; omega)))
      clear bx gx
      clear B9 C9 G9 R9
      obtain ⟨⟨q0, q1, q2⟩, -⟩ := ta_cells BA.out
      obtain ⟨⟨r0, r1, r2⟩, z0, z1, z2⟩ := ta_cells RA.out
      obtain ⟨x1, g1⟩ := ta_set0 RA.out (y)
      obtain ⟨x2, g2⟩ := ta_set1 x1 (0)
      obtain ⟨x3, g3⟩ := ta_set2 x2 (u)
      have CF := Lib.hid ((CA.out.grown (grown_trans (grown_trans g1 g2) g3) (fun k hk => by injection hk with hk; omega)).le (K' := K + 20) (by omega))
      have GF := Lib.hid (grown_row GA.out (grown_trans (grown_trans g1 g2) g3) (fun k hk => by injection hk with hk; omega))
      obtain ⟨⟨v0, v1, v2⟩, -⟩ := ta_cells x3
      clear x1 x2 x3 g1 g2 g3
      go_wp2
      exact bodyPost_ret (v := .agg #[.int .i64 (y), .int .i64 (0), .int .i64 (u)]) (by simp [results, Try.results66, go_sem, v0, v1, v2]) rfl ⟨⟨_, _, _, rfl⟩, CF.out, GF.out⟩
    have e1 : (t == 1) = false := by simp; omega
    obtain ⟨⟨q0, q1, q2⟩, -⟩ := ta_cells B8.out
    obtain ⟨⟨r0, r1, r2⟩, z0, z1, z2⟩ := ta_cells R8.out
    obtain ⟨x1, g1⟩ := ta_set0 R8.out (y)
    obtain ⟨x2, g2⟩ := ta_set1 x1 (0)
    obtain ⟨x3, g3⟩ := ta_set2 x2 (a)
    have CF := Lib.hid ((C8.out.grown (grown_trans (grown_trans g1 g2) g3) (fun k hk => by injection hk with hk; omega)).le (K' := K + 20) (by omega))
    have GF := Lib.hid (grown_row G8.out (grown_trans (grown_trans g1 g2) g3) (fun k hk => by injection hk with hk; omega))
    obtain ⟨⟨v0, v1, v2⟩, -⟩ := ta_cells x3
    clear x1 x2 x3 g1 g2 g3
    go_wp2
    exact bodyPost_ret (v := .agg #[.int .i64 (y), .int .i64 (0), .int .i64 (a)]) (by simp [results, Try.results66, go_sem, v0, v1, v2]) rfl ⟨⟨_, _, _, rfl⟩, CF.out, GF.out⟩
  have e2 : (s == 2) = false := by simp; omega
  go_wp2_with fail
  refine (pick_any g (K + 8) 24 _ C5.out (by omega) (by omega) (by omega)).mono ?_
  rintro e w8 ⟨⟨t, rfl, t_0, t_1⟩, hc, hg⟩
  have C8 := Lib.hid hc
  have G8 := Lib.hid (grown_trans G5.out hg)
  have R8 := Lib.hid (R5.out.cur hg hgw)
  have B8 := Lib.hid (B5.out.cur hg hgw)
  clear hc hg C5 G5 R5 B5
  by_cases ht0 : t = 0
  · subst ht0
    have Cq := Lib.hid (C8.out.below (below_alloc (.cells #[.int .i64 (-1), .int .i64 1001] 3)))
    have Gq := Lib.hid (grown_below G8.out (below_alloc (.cells #[.int .i64 (-1), .int .i64 1001] 3)))
    have Rq := Lib.hid (R8.out.below (below_alloc (.cells #[.int .i64 (-1), .int .i64 1001] 3)))
    have Bq := Lib.hid (B8.out.below (below_alloc (.cells #[.int .i64 (-1), .int .i64 1001] 3)))
    have Aq := Lib.hid (rd_lit (w := w8.alloc (.cells #[.int .i64 (-1), .int .i64 1001] 3)) (k := w8.heap.size) (n := 2) (l := ([(-1), 1001] : List Int)) (enc := inV) (heap_new rfl) inV_len rfl (by simp [maxLen]) rfl)
    have hgs : g < w8.heap.size := C8.out.lt
    go_wp2_with fail
    refine (among_any g (K + 10) _ 2 2 _ _ Cq.out (by omega) Aq.out (by omega) (by omega) (fun a ha => by injection ha with ha; subst ha; first | omega | (simp; omega) | (simp at hgs ⊢; omega))).mono ?_
    rintro e w9 ⟨⟨u, rfl, hx⟩, hc, hg⟩
    have C9 := Lib.hid hc
    have G9 := Lib.hid (grown_trans Gq.out hg)
    have R9 := Lib.hid (Rq.out.cur hg hgw)
    have B9 := Lib.hid (Bq.out.cur hg hgw)
    clear hx hc hg hgs Cq Gq Aq C8 G8 Rq R8 Bq B8
    obtain ⟨⟨q0', q1', q2'⟩, k0, k1, k2⟩ := ta_cells B9.out
    obtain ⟨bx, gx⟩ := ta_set0 B9.out (u)
    have BA := Lib.hid bx
    have CA := Lib.hid (C9.out.grown gx (fun k hk => by injection hk with hk; omega))
    have GA := Lib.hid (grown_row G9.out gx (fun k hk => by injection hk with hk; omega))
    have RA := Lib.hid (R9.out.grown gx (.inr (by simp [blockOf]; omega)))
    clear bx gx
    clear B9 C9 G9 R9
    obtain ⟨⟨q0, q1, q2⟩, -⟩ := ta_cells BA.out
    obtain ⟨⟨r0, r1, r2⟩, z0, z1, z2⟩ := ta_cells RA.out
    obtain ⟨x1, g1⟩ := ta_set0 RA.out (u)
    obtain ⟨x2, g2⟩ := ta_set1 x1 (n)
    obtain ⟨x3, g3⟩ := ta_set2 x2 (a)
    have CF := Lib.hid ((CA.out.grown (grown_trans (grown_trans g1 g2) g3) (fun k hk => by injection hk with hk; omega)).le (K' := K + 20) (by omega))
    have GF := Lib.hid (grown_row GA.out (grown_trans (grown_trans g1 g2) g3) (fun k hk => by injection hk with hk; omega))
    obtain ⟨⟨v0, v1, v2⟩, -⟩ := ta_cells x3
    clear x1 x2 x3 g1 g2 g3
    go_wp2
    exact bodyPost_ret (v := .agg #[.int .i64 (u), .int .i64 (n), .int .i64 (a)]) (by simp [results, Try.results66, go_sem, v0, v1, v2]) rfl ⟨⟨_, _, _, rfl⟩, CF.out, GF.out⟩
  have e0 : (t == 0) = false := by simp; omega
  by_cases ht1 : t = 1
  · subst ht1
    have Cq := Lib.hid (C8.out.below (below_alloc (.cells #[.int .i64 (-1), .int .i64 1001] 3)))
    have Gq := Lib.hid (grown_below G8.out (below_alloc (.cells #[.int .i64 (-1), .int .i64 1001] 3)))
    have Rq := Lib.hid (R8.out.below (below_alloc (.cells #[.int .i64 (-1), .int .i64 1001] 3)))
    have Bq := Lib.hid (B8.out.below (below_alloc (.cells #[.int .i64 (-1), .int .i64 1001] 3)))
    have Aq := Lib.hid (rd_lit (w := w8.alloc (.cells #[.int .i64 (-1), .int .i64 1001] 3)) (k := w8.heap.size) (n := 2) (l := ([(-1), 1001] : List Int)) (enc := inV) (heap_new rfl) inV_len rfl (by simp [maxLen]) rfl)
    have hgs : g < w8.heap.size := C8.out.lt
    go_wp2_with fail
    refine (among_any g (K + 10) _ 2 2 _ _ Cq.out (by omega) Aq.out (by omega) (by omega) (fun a ha => by injection ha with ha; subst ha; first | omega | (simp; omega) | (simp at hgs ⊢; omega))).mono ?_
    rintro e w9 ⟨⟨u, rfl, hx⟩, hc, hg⟩
    have C9 := Lib.hid hc
    have G9 := Lib.hid (grown_trans Gq.out hg)
    have R9 := Lib.hid (Rq.out.cur hg hgw)
    have B9 := Lib.hid (Bq.out.cur hg hgw)
    clear hx hc hg hgs Cq Gq Aq C8 G8 Rq R8 Bq B8
    obtain ⟨⟨q0', q1', q2'⟩, k0, k1, k2⟩ := ta_cells B9.out
    obtain ⟨bx, gx⟩ := ta_set2 B9.out (u)
    have BA := Lib.hid bx
    have CA := Lib.hid (C9.out.grown gx (fun k hk => by injection hk with hk; omega))
    have GA := Lib.hid (grown_row G9.out gx (fun k hk => by injection hk with hk; omega))
    have RA := Lib.hid (R9.out.grown gx (.inr (by simp [blockOf]; omega)))
    clear bx gx
    clear B9 C9 G9 R9
    obtain ⟨⟨q0, q1, q2⟩, -⟩ := ta_cells BA.out
    obtain ⟨⟨r0, r1, r2⟩, z0, z1, z2⟩ := ta_cells RA.out
    obtain ⟨x1, g1⟩ := ta_set0 RA.out (y)
    obtain ⟨x2, g2⟩ := ta_set1 x1 (n)
    obtain ⟨x3, g3⟩ := ta_set2 x2 (u)
    have CF := Lib.hid ((CA.out.grown (grown_trans (grown_trans g1 g2) g3) (fun k hk => by injection hk with hk; omega)).le (K' := K + 20) (by omega))
    have GF := Lib.hid (grown_row GA.out (grown_trans (grown_trans g1 g2) g3) (fun k hk => by injection hk with hk; omega))
    obtain ⟨⟨v0, v1, v2⟩, -⟩ := ta_cells x3
    clear x1 x2 x3 g1 g2 g3
    go_wp2
    exact bodyPost_ret (v := .agg #[.int .i64 (y), .int .i64 (n), .int .i64 (u)]) (by simp [results, Try.results66, go_sem, v0, v1, v2]) rfl ⟨⟨_, _, _, rfl⟩, CF.out, GF.out⟩
  have e1 : (t == 1) = false := by simp; omega
  obtain ⟨⟨q0, q1, q2⟩, -⟩ := ta_cells B8.out
  obtain ⟨⟨r0, r1, r2⟩, z0, z1, z2⟩ := ta_cells R8.out
  obtain ⟨x1, g1⟩ := ta_set0 R8.out (y)
  obtain ⟨x2, g2⟩ := ta_set1 x1 (n)
  obtain ⟨x3, g3⟩ := ta_set2 x2 (a)
  have CF := Lib.hid ((C8.out.grown (grown_trans (grown_trans g1 g2) g3) (fun k hk => by injection hk with hk; omega)).le (K' := K + 20) (by omega))
  have GF := Lib.hid (grown_row G8.out (grown_trans (grown_trans g1 g2) g3) (fun k hk => by injection hk with hk; omega))
  obtain ⟨⟨v0, v1, v2⟩, -⟩ := ta_cells x3
  clear x1 x2 x3 g1 g2 g3
  go_wp2
  exact bodyPost_ret (v := .agg #[.int .i64 (y), .int .i64 (n), .int .i64 (a)]) (by simp [results, Try.results66, go_sem, v0, v1, v2]) rfl ⟨⟨_, _, _, rfl⟩, CF.out, GF.out⟩


set_option maxRecDepth 100000 in
set_option maxHeartbeats 1000000 in
theorem drawTally_any (A : Option Addr) (n c : Nat) (l : List Int) (w : World) (ha : Rd byV 1 w A n c l) (hb : ∀ x ∈ l, 0 ≤ x ∧ x ≤ 255) : Calls Try.prog 68 #[.slice A n c] w fun e w' => (∃ y n a : Int, e = .returned (.agg #[.int .i64 y, .int .i64 n, .int .i64 a])) ∧ Below w.heap.size w w' := by
  have R0 := Lib.hid (own_one (enc := taV) w #[.int .i64 0, .int .i64 0, .int .i64 0] 43 (⟨0, 0, 0⟩ : TA) rfl rfl)
  have b0 := below_alloc (w := w) (.cells #[.int .i64 0, .int .i64 0, .int .i64 0] 43)
  have hws : w.heap.size < (w.alloc (.cells #[.int .i64 0, .int .i64 0, .int .i64 0] 43)).heap.size := by simp
  have hsz : (w.alloc (.cells #[.int .i64 0, .int .i64 0, .int .i64 0] 43)).heap.size = w.heap.size + 1 := by simp
  have ha1 := ha.below b0
  clear ha
  go_enter Try.func68, Try.ntmps68
  go_wp2_with fail
  generalize hwa : w.alloc (.cells #[.int .i64 0, .int .i64 0, .int .i64 0] 43) = wa at *
  clear hwa
  have C0 := Lib.hid (Cur.start ha1 hb)
  have c0 := below_alloc (w := wa) (.cells #[.slice A n c, .int .i64 0, .int .u64 0] 72)
  have R1 := Lib.hid (R0.out.below c0)
  have hN : ∀ k, blockOf (some (⟨w.heap.size, 0, none⟩ : Addr)) = some k → k ≠ wa.heap.size := fun k hk => by simp [blockOf] at hk; omega
  have hq2 : wa.heap.size ≤ (wa.alloc (.cells #[.slice A n c, .int .i64 0, .int .u64 0] 72)).heap.size := by simp
  generalize hwb : wa.alloc (.cells #[.slice A n c, .int .i64 0, .int .u64 0] 72) = wb at *
  clear hwb
  have HZ := Lib.hid hsz
  clear hsz
  refine (tally_any (w.heap.size + 1) 0 _ (by rw [← HZ.out]; exact C0.out) (by omega)).mono ?_
  rintro e w2 ⟨⟨y, m, a, rfl⟩, hc, hg⟩
  rw [← HZ.out] at hg
  have T2 := Lib.hid (b0.trans ((c0.mono (Nat.le_of_lt hws)).trans ((below_cur hg (Nat.le_refl _) hq2).mono (Nat.le_of_lt hws))))
  have R2 := Lib.hid (R1.out.curOld hg hN)
  clear hc hg C0 R0 R1 b0 c0
  obtain ⟨⟨r0, r1, r2⟩, z0, z1, z2⟩ := ta_cells R2.out
  obtain ⟨x1, g1⟩ := ta_set0 R2.out (y)
  obtain ⟨x2, g2⟩ := ta_set1 x1 (m)
  obtain ⟨x3, g3⟩ := ta_set2 x2 (a)
  have TF := Lib.hid ((T2.out).grown (grown_trans (grown_trans g1 g2) g3) (T2.out).size (fun k hk => by injection hk with hk; omega))
  obtain ⟨⟨v0, v1, v2⟩, -⟩ := ta_cells x3
  clear x1 x2 x3 g1 g2 g3
  go_wp2
  exact bodyPost_ret (v := .agg #[.int .i64 y, .int .i64 m, .int .i64 a]) (by simp [results, Try.results68, go_sem, v0, v1, v2]) rfl ⟨⟨_, _, _, rfl⟩, TF.out⟩


set_option maxRecDepth 100000 in
set_option maxHeartbeats 1000000 in
theorem drawVotes_any (A : Option Addr) (n c : Nat) (l : List Int) (w : World) (ha : Rd byV 1 w A n c l) (hb : ∀ x ∈ l, 0 ≤ x ∧ x ≤ 255) : Calls Try.prog 34 #[.slice A n c] w fun e w' => (∃ y n a : Int, e = .returned (.agg #[.int .i64 y, .int .i64 n, .int .i64 a])) ∧ Below w.heap.size w w' := by
  have R0 := Lib.hid (own_one (enc := taV) w #[.int .i64 0, .int .i64 0, .int .i64 0] 43 (⟨0, 0, 0⟩ : TA) rfl rfl)
  have b0 := below_alloc (w := w) (.cells #[.int .i64 0, .int .i64 0, .int .i64 0] 43)
  have ha1 := ha.below b0
  clear ha
  go_enter Try.func34, Try.ntmps34
  go_wp2_with fail
  refine (drawTally_any _ _ _ _ _ ha1 hb).mono ?_
  rintro e w2 ⟨⟨y, m, a, rfl⟩, b2⟩
  have T2 := Lib.hid (below_trans b0 b2)
  have R2 := Lib.hid (R0.out.below b2)
  clear R0 b0 b2
  obtain ⟨⟨r0, r1, r2⟩, z0, z1, z2⟩ := ta_cells R2.out
  obtain ⟨x1, g1⟩ := ta_set0 R2.out (y)
  obtain ⟨x2, g2⟩ := ta_set1 x1 (m)
  obtain ⟨x3, g3⟩ := ta_set2 x2 (a)
  have TF := Lib.hid ((T2.out).grown (grown_trans (grown_trans g1 g2) g3) (T2.out).size (fun k hk => by injection hk with hk; omega))
  obtain ⟨⟨v0, v1, v2⟩, -⟩ := ta_cells x3
  clear x1 x2 x3 g1 g2 g3
  go_wp2
  exact bodyPost_ret (v := .agg #[.int .i64 y, .int .i64 m, .int .i64 a]) (by simp [results, Try.results34, go_sem, v0, v1, v2]) rfl ⟨⟨_, _, _, rfl⟩, TF.out⟩


set_option maxRecDepth 100000 in
set_option maxHeartbeats 2000000 in
theorem drawDecide_any (A : Option Addr) (n c : Nat) (l : List Int) (w : World) (ha : Rd byV 1 w A n c l) (hb : ∀ x ∈ l, 0 ≤ x ∧ x ≤ 255) : Calls Try.prog 30 #[.slice A n c] w fun e w' => (∃ B q d lp y m a, e = .returned (.tuple #[.slice B q d, .agg #[.int .i64 y, .int .i64 m, .int .i64 a]]) ∧ q ≤ 40 ∧ Own ptV 7 w' w.heap.size 53 B q d lp) ∧ Below w.heap.size w w' := by
  have R0 := Lib.hid (own_one (enc := taV) w #[.int .i64 0, .int .i64 0, .int .i64 0] 43 (⟨0, 0, 0⟩ : TA) rfl rfl)
  have b0 := below_alloc (w := w) (.cells #[.int .i64 0, .int .i64 0, .int .i64 0] 43)
  have hws : w.heap.size < (w.alloc (.cells #[.int .i64 0, .int .i64 0, .int .i64 0] 43)).heap.size := by simp
  go_enter Try.func30, Try.ntmps30
  go_wp2_with fail
  generalize hwa : w.alloc (.cells #[.int .i64 0, .int .i64 0, .int .i64 0] 43) = wa at *
  clear hwa
  refine (drawAppeal_any _ _ _ _ _ (ha.below b0) hb).mono ?_
  rintro e w1 ⟨⟨B, q, d, x, lp, rfl, hq, -, -, o1⟩, b1⟩
  have hs1 := b1.size
  have T1 := Lib.hid (below_trans b0 b1)
  have L1 := Lib.hid o1
  have R1 := Lib.hid (R0.out.below b1)
  clear o1 b0 b1 R0
  go_wp2_with fail
  have C0 := Lib.hid (Cur.start (ha.below T1.out) hb)
  have c0 := below_alloc (w := w1) (.cells #[.slice A n c, .int .i64 0, .int .u64 0] 72)
  have L2 := Lib.hid (L1.out.below c0)
  have R2 := Lib.hid (R1.out.below c0)
  have hN : ∀ k, blockOf (some (⟨w.heap.size, 0, none⟩ : Addr)) = some k → k ≠ w1.heap.size := fun k hk => by simp [blockOf] at hk; omega
  have hNL : ∀ k, blockOf B = some k → k ≠ w1.heap.size := fun k hk => by have := (L1.out.lt hk).2; omega
  have hq2 : w1.heap.size < (w1.alloc (.cells #[.slice A n c, .int .i64 0, .int .u64 0] 72)).heap.size := by simp
  have G2 := Lib.hid (grown_of_below c0 (some w1.heap.size))
  have hq3 : w1.heap.size ≤ w1.heap.size := Nat.le_refl _
  generalize hwb : w1.alloc (.cells #[.slice A n c, .int .i64 0, .int .u64 0] 72) = w2 at *
  clear hwb ha c0 L1 R1
  refine (pick_any w1.heap.size 0 4 _ C0.out (by omega) (by omega) (by omega)).mono ?_
  rintro e w3 ⟨⟨z, rfl, z_0, z_1⟩, hc, hg⟩
  have C3 := Lib.hid hc
  have G3 := Lib.hid (grown_trans G2.out hg)
  have L3 := Lib.hid (L2.out.curOld hg hNL)
  have R3 := Lib.hid (R2.out.curOld hg hN)
  have hw3 : w1.heap.size < w3.heap.size := by have := hg.size; omega
  clear hc hg C0 G2 L2 R2
  go_wp2_with fail
  refine (specAppeal_any _ _ _ lp (1 + z) _ (L3.out.rd ptV_len)).mono ?_
  rintro e w5 ⟨⟨B2, q2, d2, rfl, o2⟩, b5⟩
  have hq5 : q2 ≤ 40 := by rw [← o2.len]; exact Nat.le_trans (appL_len lp (1 + z)) (by rw [L3.out.len]; omega)
  have C5 := Lib.hid (C3.out.below b5)
  have G5 := Lib.hid (grown_below G3.out b5)
  have L5 := Lib.hid (L3.out.below b5)
  have R5 := Lib.hid (R3.out.below b5)
  have M5 := Lib.hid o2
  have hwm : w.heap.size ≤ w3.heap.size := by omega
  have hwl : w.heap.size ≤ wa.heap.size := by omega
  clear o2 b5 C3 G3 L3 R3
  cases hok : appG lp (1 + z)
  · clear hok
    go_wp2_with fail
    refine (tally_any w1.heap.size 2 _ C5.out (by omega)).mono ?_
    rintro e w6 ⟨⟨y, m, a, rfl⟩, hc, hg⟩
    have G6 := Lib.hid (grown_trans G5.out hg)
    have R6 := Lib.hid (R5.out.curOld hg hN)
    have LL6 := Lib.hid ((L5.out.curOld hg hNL).base_le hwl)
    have T6 := Lib.hid (T1.out.trans ((below_cur G6.out (Nat.le_refl _) hq3).mono T1.out.size))
    clear hc hg C5 G5 R5
    obtain ⟨⟨r0, r1, r2⟩, z0, z1, z2⟩ := ta_cells R6.out
    obtain ⟨x1, g1⟩ := ta_set0 R6.out (y)
    obtain ⟨x2, g2⟩ := ta_set1 x1 (m)
    obtain ⟨x3, g3⟩ := ta_set2 x2 (a)
    have TF := Lib.hid ((T6.out).grown (grown_trans (grown_trans g1 g2) g3) (T6.out).size (fun k hk => by injection hk with hk; omega))
    obtain ⟨⟨v0, v1, v2⟩, -⟩ := ta_cells x3
    have LF := Lib.hid (LL6.out.grown (grown_trans (grown_trans g1 g2) g3) (LL6.out.ne_block R6.out (by decide)))
    clear x1 x2 x3 g1 g2 g3
    go_wp2
    exact bodyPost_ret (v := .tuple #[.slice B q d, .agg #[.int .i64 y, .int .i64 m, .int .i64 a]]) (by simp [results, Try.results30, go_sem, v0, v1, v2]) rfl ⟨⟨_, _, _, _, _, _, _, rfl, by omega, LF.out⟩, TF.out⟩
  · clear hok
    go_wp2_with fail
    refine (tally_any w1.heap.size 2 _ C5.out (by omega)).mono ?_
    rintro e w6 ⟨⟨y, m, a, rfl⟩, hc, hg⟩
    have G6 := Lib.hid (grown_trans G5.out hg)
    have R6 := Lib.hid (R5.out.curOld hg hN)
    have LL6 := Lib.hid ((M5.out.cur hg hw3).base_le hwm)
    have T6 := Lib.hid (T1.out.trans ((below_cur G6.out (Nat.le_refl _) hq3).mono T1.out.size))
    clear hc hg C5 G5 R5
    obtain ⟨⟨r0, r1, r2⟩, z0, z1, z2⟩ := ta_cells R6.out
    obtain ⟨x1, g1⟩ := ta_set0 R6.out (y)
    obtain ⟨x2, g2⟩ := ta_set1 x1 (m)
    obtain ⟨x3, g3⟩ := ta_set2 x2 (a)
    have TF := Lib.hid ((T6.out).grown (grown_trans (grown_trans g1 g2) g3) (T6.out).size (fun k hk => by injection hk with hk; omega))
    obtain ⟨⟨v0, v1, v2⟩, -⟩ := ta_cells x3
    have LF := Lib.hid (LL6.out.grown (grown_trans (grown_trans g1 g2) g3) (LL6.out.ne_block R6.out (by decide)))
    clear x1 x2 x3 g1 g2 g3
    go_wp2
    exact bodyPost_ret (v := .tuple #[.slice B2 q2 d2, .agg #[.int .i64 y, .int .i64 m, .int .i64 a]]) (by simp [results, Try.results30, go_sem, v0, v1, v2]) rfl ⟨⟨_, _, _, _, _, _, _, rfl, by omega, LF.out⟩, TF.out⟩


end Go.Proofs.Ytjeldedmaanhbaa
