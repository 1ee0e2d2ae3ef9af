/-
  YtmahfkimeclcbaaGreatDoorCorDZ: corrections: what is drawn for the great law on their texts. (Printed by wip/gen/zcort.py.)
-/
import Derived.Test.YtmahfkimeclcbaaGreatDoorCorDB
import Derived.Test.YtmahfkimeclcbaaGreatDoorCorP
import Derived.Test.YtmahfkimeclcbaaGreatDoorCorW
import Derived.Test.YtmahfkimeclcbaaGreatDoorSpo
import Derived.Deep.RegionLaw
namespace Go.Proofs.YtmahfkimeclcbaaGreatDoor
open Go Go.RowKit Go.Sort
set_option linter.unusedVariables false

theorem corL_80 (x : CO) : (corL x).size ≤ 80 := by
  unfold corL
  by_cases h : tellB x = true
  · rw [if_pos h]
    obtain ⟨h1, h2, h3, h4⟩ := tellB_iff.1 h
    obtain ⟨g1, g2, g3⟩ := coOK_sizes h2
    have hl := tell_line h
    have hn := num_two (n := x.line.toNat) (by omega)
    unfold corS
    simp only [ByteArray.size_append, szLine, szCol, szTo, szQ]
    omega
  · rw [if_neg h]; decide
theorem corL_hit {x : CO} (h : tellB x = true) : parC (corL x) = (x, true) := parC_hit h (by unfold corL; rw [if_pos h])
theorem co1M {x : CO} (h : CoS x) : x.old.size ≤ 1048576 ∧ x.new.size ≤ 1048576 := ⟨Nat.le_trans h.1 (by omega), Nat.le_trans h.2 (by omega)⟩
theorem coM {x : CO} (h : CoS x) : x.old.size ≤ maxLen ∧ x.new.size ≤ maxLen := ⟨Nat.le_trans h.1 (by simp [maxLen]), Nat.le_trans h.2 (by simp [maxLen])⟩
theorem t1M {l : List ByteArray} (h : ∀ s ∈ l, s.size ≤ 60) : ∀ s ∈ l, s.size ≤ 1048576 := fun s hs => Nat.le_trans (h s hs) (by omega)
theorem cell_cur {w w' : World} {g b i : Nat} {v : Value} (hg : w.grownBy w' (some g)) (h : w.cell? ⟨b, i, none⟩ = some v) (hne : b ≠ g) : w'.cell? ⟨b, i, none⟩ = some v := by
  rw [World.cell?_of_block (a := ⟨b, i, none⟩) (hg.block b (lt_of_cell h) (fun e => hne (by injection e)))]
  exact h

set_option maxRecDepth 100000 in
set_option maxHeartbeats 2000000 in
theorem drawCT_any (A : Option Addr) (n c : Nat) (l : List Int) (w : World) (ha : Rd byV 1 w A n c l) (hb : ∀ x ∈ l, 0 ≤ x ∧ x ≤ 255) : Calls Tryz.prog 5 #[.slice A n c] w fun e w' => (∃ x : CO, e = .returned (.agg #[.int .i64 x.line, .string x.old, .string x.new]) ∧ CoS x) ∧ Below w.heap.size w w' := by
  have R0 := Lib.hid (own_one (enc := coV) w #[.int .i64 0, .string ⟨#[]⟩, .string ⟨#[]⟩] 25 (⟨0, ⟨#[]⟩, ⟨#[]⟩⟩ : CO) rfl rfl)
  have b0 := below_alloc (w := w) (.cells #[.int .i64 0, .string ⟨#[]⟩, .string ⟨#[]⟩] 25)
  have hws : w.heap.size < (w.alloc (.cells #[.int .i64 0, .string ⟨#[]⟩, .string ⟨#[]⟩] 25)).heap.size := by simp
  have hsz : (w.alloc (.cells #[.int .i64 0, .string ⟨#[]⟩, .string ⟨#[]⟩] 25)).heap.size = w.heap.size + 1 := by simp
  have ha1 := ha.below b0
  clear ha
  go_enter Tryz.func5, Tryz.ntmps5
  go_wp2_with fail
  generalize hwa : w.alloc (.cells #[.int .i64 0, .string ⟨#[]⟩, .string ⟨#[]⟩] 25) = wa at *
  clear hwa
  have C0 := Lib.hid (Cur.start ha1 hb)
  have c0 := below_alloc (w := wa) (.cells #[.slice A n c, .int .i64 0, .int .u64 0] 45)
  have R1 := Lib.hid (R0.out.below c0)
  have hN : ∀ k, blockOf (some (⟨w.heap.size, 0, none⟩ : Addr)) = some k → k ≠ wa.heap.size := fun k hk => by simp [blockOf] at hk; omega
  have hq2 : wa.heap.size < (wa.alloc (.cells #[.slice A n c, .int .i64 0, .int .u64 0] 45)).heap.size := by simp
  generalize hwb : wa.alloc (.cells #[.slice A n c, .int .i64 0, .int .u64 0] 45) = wb at *
  clear hwb
  have HZ := Lib.hid hsz
  clear hsz
  refine (sheet_any (w.heap.size + 1) 0 _ (by rw [← HZ.out]; exact C0.out) (by omega)).mono ?_
  rintro e w1 ⟨⟨B, q, d, lp, rfl, hq, o1⟩, hc, hg⟩
  rw [← HZ.out] at hg hc
  have C1 := Lib.hid hc
  have G1 := Lib.hid hg
  have L1 := Lib.hid o1
  have R2 := Lib.hid (R1.out.curOld hg hN)
  have hblk : ∀ a, B = some a → a.block ≠ w.heap.size + 1 := fun a ha => by have := (o1.own.lt (k := a.block) (by rw [ha]; rfl)).1; rw [← HZ.out]; omega
  clear hc hg o1 C0 R0 R1
  go_wp2_with fail
  refine (correction_any (w.heap.size + 1) 100 _ _ _ lp _ (by rw [← HZ.out]; exact C1.out.le (by omega)) (by omega) (L1.out.own.rd stV_len) hblk (by omega) L1.out.good).mono ?_
  rintro e w2 ⟨⟨x, rfl, hx⟩, hc, hg⟩
  rw [← HZ.out] at hg
  have X := Lib.hid hx
  have G2 := Lib.hid (grown_trans G1.out hg)
  have R3 := Lib.hid (R2.out.curOld hg hN)
  have T2 := Lib.hid (b0.trans ((c0.mono (Nat.le_of_lt hws)).trans ((below_cur G2.out (Nat.le_refl _) (Nat.le_of_lt hq2)).mono (Nat.le_of_lt hws))))
  clear hc hg C1 G1 G2 L1 R2 hx b0 c0
  obtain ⟨⟨r0, r1, r2⟩, z0, z1, z2⟩ := bx_cells R3.out
  obtain ⟨y0, g0⟩ := bx_set0 R3.out (x.line)
  obtain ⟨y1, g1⟩ := bx_set1 y0 (x.old)
  obtain ⟨y2, g2⟩ := bx_set2 y1 (x.new)
  have TF := Lib.hid ((T2.out).grown (grown_trans (grown_trans g0 g1) g2) (T2.out).size (fun k hk => by injection hk with hk; omega))
  obtain ⟨⟨v0, v1, v2⟩, -⟩ := bx_cells y2
  clear y0 g0 y1 g1 y2 g2
  go_wp2
  exact bodyPost_ret (v := .agg #[.int .i64 x.line, .string x.old, .string x.new]) (by simp [results, Tryz.results5, go_sem, v0, v1, v2]) rfl ⟨⟨_, rfl, X.out⟩, TF.out⟩

set_option maxRecDepth 100000 in
set_option maxHeartbeats 2000000 in
theorem drawParseC_any (A : Option Addr) (n c : Nat) (l : List Int) (w : World) (ha : Rd byV 1 w A n c l) (hb : ∀ x ∈ l, 0 ≤ x ∧ x ≤ 255) : Calls Tryz.prog 9 #[.slice A n c] w fun e w' => (∃ s : ByteArray, e = .returned (.string s) ∧ s.size ≤ 82) ∧ Below w.heap.size w w' := by
  have C0 := Lib.hid (Cur.start ha hb)
  have b0 := below_alloc (w := w) (.cells #[.slice A n c, .int .i64 0, .int .u64 0] 45)
  have hgw : w.heap.size < (w.alloc (.cells #[.slice A n c, .int .i64 0, .int .u64 0] 45)).heap.size := by simp
  go_enter Tryz.func9, Tryz.ntmps9
  go_wp2_with fail
  generalize hw0 : w.alloc (.cells #[.slice A n c, .int .i64 0, .int .u64 0] 45) = w0 at *
  clear hw0
  refine (sheet_any w.heap.size 0 _ C0.out (by omega)).mono ?_
  rintro e w1 ⟨⟨B, q, d, lp, rfl, hq, o1⟩, hc, hg⟩
  have C1 := Lib.hid hc
  have G1 := Lib.hid hg
  have L1 := Lib.hid o1
  have hblk : ∀ a, B = some a → a.block ≠ w.heap.size := fun a ha => by have := (o1.own.lt (k := a.block) (by rw [ha]; rfl)).1; omega
  clear hc hg o1
  go_wp2_with fail
  refine (correction_any w.heap.size 100 _ _ _ lp _ (C1.out.le (by omega)) (by omega) (L1.out.own.rd stV_len) hblk (by omega) L1.out.good).mono ?_
  rintro e w1x ⟨⟨x, rfl, hx⟩, hc, hg⟩
  have X := Lib.hid hx
  have C1x := Lib.hid hc
  have G1x := Lib.hid (grown_trans G1.out hg)
  clear C1 G1 hx L1
  have C1 := C1x
  have G1 := G1x
  clear C1x G1x
  clear hc hg C0
  go_wp2_with fail
  refine (specCorrectionText_any x _ (coM X.out).1 (coM X.out).2).mono ?_
  rintro e w2 ⟨rfl, b2⟩
  have C2 := Lib.hid (C1.out.below b2)
  have G2 := Lib.hid (grown_below G1.out b2)
  have S := Lib.hid (show (corL x).size ≤ 80 from corL_80 x)
  generalize corL x = s at *
  have hs := S.out
  clear C1 G1 b2
  go_wp2_with fail
  refine (one_any w.heap.size 130 4 _ (C2.out.le (by omega)) (by omega) (by omega) (by omega)).mono ?_
  rintro e w3 ⟨⟨y, rfl⟩, hc, hg⟩
  have C3 := Lib.hid hc
  have G3 := Lib.hid (grown_trans G2.out hg)
  clear hc hg C2 G2
  cases y
  · go_wp2
    go_ret
    exact ⟨⟨_, rfl, by omega⟩, (b0.trans (below_cur G3.out (Nat.le_refl _) (Nat.le_of_lt hgw)))⟩
  · go_wp2_with fail
    refine (spoilt_any w.heap.size 132 s ⟨#[48, 34, 58, 32, 116, 97, 108]⟩ _ (C3.out.le (by omega)) (by omega) (by omega) (by decide) (by decide)).mono ?_
    rintro e w4 ⟨⟨x, rfl, hx⟩, hc, hg⟩
    have G4 := Lib.hid (grown_trans G3.out hg)
    clear hc hg C3 G3
    go_wp2
    go_ret
    exact ⟨⟨_, rfl, by omega⟩, (b0.trans (below_cur G4.out (Nat.le_refl _) (Nat.le_of_lt hgw)))⟩

set_option maxRecDepth 100000 in
set_option maxHeartbeats 2000000 in
theorem drawShort_any (A : Option Addr) (n c : Nat) (l : List Int) (w : World) (ha : Rd byV 1 w A n c l) (hb : ∀ x ∈ l, 0 ≤ x ∧ x ≤ 255) : Calls Tryz.prog 11 #[.slice A n c] w fun e w' => (∃ a b : ByteArray, e = .returned (.tuple #[.string a, .string b]) ∧ a.size ≤ 60 ∧ b.size ≤ 60) ∧ Below w.heap.size w w' := by
  have C0 := Lib.hid (Cur.start ha hb)
  have b0 := below_alloc (w := w) (.cells #[.slice A n c, .int .i64 0, .int .u64 0] 45)
  have hgw : w.heap.size < (w.alloc (.cells #[.slice A n c, .int .i64 0, .int .u64 0] 45)).heap.size := by simp
  have G0 := Lib.hid (World.grownBy.refl (w.alloc (.cells #[.slice A n c, .int .i64 0, .int .u64 0] 45)) (some w.heap.size))
  go_enter Tryz.func11, Tryz.ntmps11
  have Cq := Lib.hid (C0.out.below (below_alloc (.cells #[.string ⟨#[]⟩, .string ⟨#[116, 104, 101, 32, 109, 111, 116, 105, 111, 110]⟩, .string ⟨#[97, 97, 97]⟩, .string ⟨#[97, 98, 97, 98]⟩, .string ⟨#[105, 116, 32, 119, 97, 115, 32, 108, 111, 115, 116]⟩, .string ⟨#[109, 111, 118, 101, 100, 32, 97, 110, 100, 32, 108, 111, 115, 116]⟩] 9)))
  have Gq := Lib.hid (grown_below G0.out (below_alloc (.cells #[.string ⟨#[]⟩, .string ⟨#[116, 104, 101, 32, 109, 111, 116, 105, 111, 110]⟩, .string ⟨#[97, 97, 97]⟩, .string ⟨#[97, 98, 97, 98]⟩, .string ⟨#[105, 116, 32, 119, 97, 115, 32, 108, 111, 115, 116]⟩, .string ⟨#[109, 111, 118, 101, 100, 32, 97, 110, 100, 32, 108, 111, 115, 116]⟩] 9)))
  go_wp2_with fail
  have Aq := Lib.hid (rd_lit (w := (w.alloc (.cells #[.slice A n c, .int .i64 0, .int .u64 0] 45)).alloc (.cells #[.string ⟨#[]⟩, .string ⟨#[116, 104, 101, 32, 109, 111, 116, 105, 111, 110]⟩, .string ⟨#[97, 97, 97]⟩, .string ⟨#[97, 98, 97, 98]⟩, .string ⟨#[105, 116, 32, 119, 97, 115, 32, 108, 111, 115, 116]⟩, .string ⟨#[109, 111, 118, 101, 100, 32, 97, 110, 100, 32, 108, 111, 115, 116]⟩] 9)) (k := (w.heap.size + 1)) (n := 6) (l := ([⟨#[]⟩, ⟨#[116, 104, 101, 32, 109, 111, 116, 105, 111, 110]⟩, ⟨#[97, 97, 97]⟩, ⟨#[97, 98, 97, 98]⟩, ⟨#[105, 116, 32, 119, 97, 115, 32, 108, 111, 115, 116]⟩, ⟨#[109, 111, 118, 101, 100, 32, 97, 110, 100, 32, 108, 111, 115, 116]⟩] : List ByteArray)) (enc := stV) (heap_new (by first | rfl | simp)) stV_len rfl (by simp [maxLen]) rfl)
  have hgs : w.heap.size < (w.heap.size + 1) := by first | omega | (have := C0.out.lt; simpa using this)
  refine (of_any w.heap.size 0 _ 6 6 _ _ (Cq.out.le (by omega)) (by omega) Aq.out (by omega) (by omega) (fun a ha => by injection ha with ha; subst ha; first | omega | (simp; done) | (simp; omega) | (simp at hgs ⊢; omega))).mono ?_
  rintro e w1 ⟨⟨x, rfl, hx⟩, hc, hg⟩
  have Xx := Lib.hid (of_sz (m := 24) hx (by decide))
  have C1 := Lib.hid hc
  have G1 := Lib.hid (grown_trans Gq.out hg)
  clear hx hc hg hgs Cq Gq Aq C0 G0 
  have Cq := Lib.hid (C1.out.below (below_alloc (.cells #[.string ⟨#[116, 104, 101, 32, 110, 111, 116, 105, 111, 110]⟩, .string ⟨#[97, 97]⟩, .string ⟨#[97, 97, 97, 97]⟩, .string ⟨#[97, 98, 99, 97, 98]⟩, .string ⟨#[105, 116, 32, 119, 97, 115, 32, 119, 111, 110]⟩, .string ⟨#[109, 111, 118, 101, 100, 32, 97, 110, 100, 32, 119, 111, 110]⟩, .string ⟨#[]⟩] 9)))
  have Gq := Lib.hid (grown_below G1.out (below_alloc (.cells #[.string ⟨#[116, 104, 101, 32, 110, 111, 116, 105, 111, 110]⟩, .string ⟨#[97, 97]⟩, .string ⟨#[97, 97, 97, 97]⟩, .string ⟨#[97, 98, 99, 97, 98]⟩, .string ⟨#[105, 116, 32, 119, 97, 115, 32, 119, 111, 110]⟩, .string ⟨#[109, 111, 118, 101, 100, 32, 97, 110, 100, 32, 119, 111, 110]⟩, .string ⟨#[]⟩] 9)))
  go_wp2_with fail
  have Aq := Lib.hid (rd_lit (w := w1.alloc (.cells #[.string ⟨#[116, 104, 101, 32, 110, 111, 116, 105, 111, 110]⟩, .string ⟨#[97, 97]⟩, .string ⟨#[97, 97, 97, 97]⟩, .string ⟨#[97, 98, 99, 97, 98]⟩, .string ⟨#[105, 116, 32, 119, 97, 115, 32, 119, 111, 110]⟩, .string ⟨#[109, 111, 118, 101, 100, 32, 97, 110, 100, 32, 119, 111, 110]⟩, .string ⟨#[]⟩] 9)) (k := w1.heap.size) (n := 7) (l := ([⟨#[116, 104, 101, 32, 110, 111, 116, 105, 111, 110]⟩, ⟨#[97, 97]⟩, ⟨#[97, 97, 97, 97]⟩, ⟨#[97, 98, 99, 97, 98]⟩, ⟨#[105, 116, 32, 119, 97, 115, 32, 119, 111, 110]⟩, ⟨#[109, 111, 118, 101, 100, 32, 97, 110, 100, 32, 119, 111, 110]⟩, ⟨#[]⟩] : List ByteArray)) (enc := stV) (heap_new (by first | rfl | simp)) stV_len rfl (by simp [maxLen]) rfl)
  have hgs : w.heap.size < w1.heap.size := by first | omega | (have := C1.out.lt; simpa using this)
  refine (of_any w.heap.size (0 + 2) _ 7 7 _ _ (Cq.out.le (by omega)) (by omega) Aq.out (by omega) (by omega) (fun a ha => by injection ha with ha; subst ha; first | omega | (simp; done) | (simp; omega) | (simp at hgs ⊢; omega))).mono ?_
  rintro e w2 ⟨⟨y, rfl, hx⟩, hc, hg⟩
  have Xy := Lib.hid (of_sz (m := 24) hx (by decide))
  have C2 := Lib.hid hc
  have G2 := Lib.hid (grown_trans Gq.out hg)
  clear hx hc hg hgs Cq Gq Aq C1 G1 
  go_wp2_with fail
  refine (one_any w.heap.size 4 16 _ (C2.out.le (by omega)) (by omega) (by omega) (by omega)).mono ?_
  rintro e w3 ⟨⟨z, rfl⟩, hc, hg⟩
  have G3 := Lib.hid (grown_trans G2.out hg)
  clear hc hg C2 G2
  have hx1 := Xx.out
  have hy1 := Xy.out
  cases z
  · go_wp2
    go_ret2
    exact ⟨⟨_, _, rfl, by omega, by omega⟩, (b0.trans (below_cur G3.out (Nat.le_refl _) (Nat.le_of_lt hgw)))⟩
  · have hz : (x ++ (⟨#[10]⟩ : ByteArray)).size = x.size + 1 := by rw [ByteArray.size_append]; rfl
    have hzm : (x ++ (⟨#[10]⟩ : ByteArray)).size ≤ maxLen := by simp only [maxLen]; omega
    go_wp2
    go_ret2
    exact ⟨⟨_, _, rfl, by omega, by omega⟩, (b0.trans (below_cur G3.out (Nat.le_refl _) (Nat.le_of_lt hgw)))⟩

end Go.Proofs.YtmahfkimeclcbaaGreatDoor
