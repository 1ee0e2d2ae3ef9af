/-
  YtmahfkimeclcbaaGreatDoorCorDY: corrections: the draw of two corrections of one sheet. (Printed by wip/gen/zcort.py.)
-/
import Derived.Test.YtmahfkimeclcbaaGreatDoorCorDZ
import Derived.Deep.RegionLaw
namespace Go.Proofs.YtmahfkimeclcbaaGreatDoor
open Go Go.RowKit Go.Sort
set_option linter.unusedVariables false

theorem ba0 {w : World} {cs : Array Value} {e : TypeId} : (w.alloc (.cells cs e)).heap.size = w.heap.size + 1 := by simp
def ComPost (w : World) (e : Ending) (w' : World) : Prop := (∃ B q d l x y, e = .returned (.tuple #[.slice B q d, .agg #[.int .i64 (CO.line x), .string x.old, .string x.new], .agg #[.int .i64 (CO.line y), .string y.old, .string y.new]]) ∧ q ≤ 13 ∧ OwnT w' w.heap.size B q d l ∧ CoS x ∧ CoS y) ∧ Below w.heap.size w w'
set_option maxRecDepth 100000 in
set_option maxHeartbeats 2000000 in
theorem drawCom_any (A : Option Addr) (n c : Nat) (l : List Int) (w : World) (ha : Rd byV 1 w A n c l) (hb : ∀ x ∈ l, 0 ≤ x ∧ x ≤ 255) : Calls Tryz.prog 15 #[.slice A n c] w (ComPost w) := by
  have R0 := Lib.hid (own_one (enc := coV) w #[.int .i64 0, .string ⟨#[]⟩, .string ⟨#[]⟩] 25 (⟨0, ⟨#[]⟩, ⟨#[]⟩⟩ : CO) rfl rfl)
  have b0 := below_alloc (w := w) (.cells #[.int .i64 0, .string ⟨#[]⟩, .string ⟨#[]⟩] 25)
  have hws : w.heap.size < (w.alloc (.cells #[.int .i64 0, .string ⟨#[]⟩, .string ⟨#[]⟩] 25)).heap.size := by simp
  have hsz : (w.alloc (.cells #[.int .i64 0, .string ⟨#[]⟩, .string ⟨#[]⟩] 25)).heap.size = w.heap.size + 1 := by simp
  have ha1 := ha.below b0
  clear ha
  go_enter Tryz.func15, Tryz.ntmps15
  go_wp2_with fail
  generalize hwa : w.alloc (.cells #[.int .i64 0, .string ⟨#[]⟩, .string ⟨#[]⟩] 25) = wa at *
  clear hwa
  have S0 := Lib.hid (own_one (enc := coV) wa #[.int .i64 0, .string ⟨#[]⟩, .string ⟨#[]⟩] 25 (⟨0, ⟨#[]⟩, ⟨#[]⟩⟩ : CO) rfl rfl)
  have bS := below_alloc (w := wa) (.cells #[.int .i64 0, .string ⟨#[]⟩, .string ⟨#[]⟩] 25)
  have R0a := Lib.hid (R0.out.below bS)
  have hsz2 : (wa.alloc (.cells #[.int .i64 0, .string ⟨#[]⟩, .string ⟨#[]⟩] 25)).heap.size = w.heap.size + 1 + 1 := by rw [ba0, hsz]
  have ha2 := ha1.below bS
  have hws2 : wa.heap.size < (wa.alloc (.cells #[.int .i64 0, .string ⟨#[]⟩, .string ⟨#[]⟩] 25)).heap.size := by simp
  generalize hwb0 : wa.alloc (.cells #[.int .i64 0, .string ⟨#[]⟩, .string ⟨#[]⟩] 25) = wo at *
  clear hwb0
  have C0 := Lib.hid (Cur.start ha2 hb)
  have c0 := below_alloc (w := wo) (.cells #[.slice A n c, .int .i64 0, .int .u64 0] 45)
  have R1 := Lib.hid (R0a.out.below c0)
  have S1 := Lib.hid (S0.out.below c0)
  have hN : ∀ k, blockOf (some (⟨w.heap.size, 0, none⟩ : Addr)) = some k → k ≠ wo.heap.size := fun k hk => by simp [blockOf] at hk; omega
  have hM : ∀ k, blockOf (some (⟨wa.heap.size, 0, none⟩ : Addr)) = some k → k ≠ wo.heap.size := fun k hk => by simp [blockOf] at hk; omega
  have hq2 : wo.heap.size < (wo.alloc (.cells #[.slice A n c, .int .i64 0, .int .u64 0] 45)).heap.size := by simp
  generalize hwb : wo.alloc (.cells #[.slice A n c, .int .i64 0, .int .u64 0] 45) = wb at *
  clear hwb
  rw [hsz] at S1 hM
  rw [hsz2] at C0 hN hM hq2
  have T0 := Lib.hid (b0.trans ((bS.mono (Nat.le_of_lt hws)).trans (c0.mono (by omega))))
  have hq3 : w.heap.size ≤ wb.heap.size := by omega
  clear R0 S0 R0a b0 bS c0 ha1 ha2 hws hws2
  refine (sheet_any (w.heap.size + 1 + 1) 0 _ C0.out (by omega)).mono ?_
  rintro e w1 ⟨⟨B, q, d, lp, rfl, hq, o1⟩, hc, hg⟩
  have C1 := Lib.hid hc
  have G1 := Lib.hid hg
  have L1 := Lib.hid o1
  have R2 := Lib.hid (R1.out.curOld hg hN)
  have S2 := Lib.hid (S1.out.curOld hg hM)
  have hblk : ∀ a, B = some a → a.block ≠ w.heap.size + 1 + 1 := fun a ha => by have := (o1.own.lt (k := a.block) (by rw [ha]; rfl)).1; omega
  clear hc hg o1 C0 R1 S1
  go_wp2_with fail
  refine (correction_any (w.heap.size + 1 + 1) 100 _ _ _ lp _ (C1.out.le (by omega)) (by omega) (L1.out.own.rd stV_len) hblk (by omega) L1.out.good).mono ?_
  rintro e w2 ⟨⟨x, rfl, hx⟩, hc, hg⟩
  have X := Lib.hid hx
  have xb := below_alloc (w := w2) (.cells #[.int .i64 x.line, .string x.old, .string x.new] 25)
  have hxb : w.heap.size + 1 + 1 < w2.heap.size := hc.lt
  have C3 := Lib.hid (hc.below xb)
  have G3 := Lib.hid (grown_below (grown_trans G1.out hg) xb)
  have L3 := Lib.hid ((L1.out.cur hg hq2).below xb)
  have R3 := Lib.hid ((R2.out.curOld hg hN).below xb)
  have S3 := Lib.hid ((S2.out.curOld hg hM).below xb)
  have x0 : (w2.alloc (.cells #[.int .i64 x.line, .string x.old, .string x.new] 25)).cell? ⟨w2.heap.size, 0, none⟩ = some (.int .i64 x.line) := cell_of_row _ _ 0 _ _ _ (heap_new rfl)
  have x1 : (w2.alloc (.cells #[.int .i64 x.line, .string x.old, .string x.new] 25)).cell? ⟨w2.heap.size, 1, none⟩ = some (.string x.old) := cell_of_row _ _ 1 _ _ _ (heap_new rfl)
  have x2 : (w2.alloc (.cells #[.int .i64 x.line, .string x.old, .string x.new] 25)).cell? ⟨w2.heap.size, 2, none⟩ = some (.string x.new) := cell_of_row _ _ 2 _ _ _ (heap_new rfl)
  clear hc hg hx C1 G1 L1 R2 S2 xb
  go_wp2_with fail
  generalize hw3 : w2.alloc (.cells #[.int .i64 x.line, .string x.old, .string x.new] 25) = w3 at *
  clear hw3
  obtain ⟨⟨r0, r1, r2⟩, z0, z1, z2⟩ := bx_cells R3.out
  obtain ⟨⟨s0, s1, s2⟩, u0, u1, u2⟩ := bx_cells S3.out
  go_region_law (first
    | (go_simp
       go_at_call 18
       refine (correction_any (w.heap.size + 1 + 1) 200 B q d lp _ ((C3.out.below (below_drewN _ _)).le (by omega)) (by omega) ((L3.out.own.rd stV_len).below (below_drewN _ _)) hblk (by omega) L3.out.good).mono ?_
       rintro e w4 ⟨⟨y, rfl, hy⟩, hc, hg⟩
       have Y := Lib.hid hy
       have G4 := Lib.hid (grown_trans (grown_below G3.out (below_drewN _ _)) hg)
       have L4 := Lib.hid ((L3.out.below (below_drewN _ _)).cur hg hq2)
       have R4 := Lib.hid ((R3.out.below (below_drewN _ _)).curOld hg hN)
       have S4 := Lib.hid ((S3.out.below (below_drewN _ _)).curOld hg hM)
       have xx0 := cell_cur hg x0 (by omega)
       have xx1 := cell_cur hg x1 (by omega)
       have xx2 := cell_cur hg x2 (by omega)
       obtain ⟨⟨rr0, rr1, rr2⟩, zz0, zz1, zz2⟩ := bx_cells R4.out
       obtain ⟨⟨ss0, ss1, ss2⟩, uu0, uu1, uu2⟩ := bx_cells S4.out
       clear hc hg hy))
  all_goals
    clear r0 r1 r2 z0 z1 z2 s0 s1 s2 u0 u1 u2 rr0 rr1 rr2 zz0 zz1 zz2 ss0 ss1 ss2 uu0 uu1 uu2 xx0 xx1 xx2 x0 x1 x2
    obtain ⟨a0, g0⟩ := bx_set0 R4.out x.line
    obtain ⟨a1, g1⟩ := bx_set1 a0 x.old
    obtain ⟨a2, g2⟩ := bx_set2 a1 x.new
    have gR := grown_trans (grown_trans g0 g1) g2
    have S5 := S4.out.grown gR (.inr (by simp [blockOf]))
    obtain ⟨d0, h0⟩ := bx_set0 S5 y.line
    obtain ⟨d1, h1⟩ := bx_set1 d0 y.old
    obtain ⟨d2, h2⟩ := bx_set2 d1 y.new
    have gS := grown_trans (grown_trans h0 h1) h2
    have R5 := a2.grown gS (.inr (by simp [blockOf]))
    obtain ⟨⟨v0, v1, v2⟩, -⟩ := bx_cells R5
    obtain ⟨⟨t0, t1, t2⟩, -⟩ := bx_cells d2
    have T4 := T0.out.trans ((below_cur G4.out (Nat.le_refl _) (Nat.le_of_lt hq2)).mono (by omega))
    have T5 := T4.grown gR T4.size (fun k hk => by injection hk with hk; omega)
    have TF := Lib.hid (T5.grown gS T5.size (fun k hk => by injection hk with hk; omega))
    have LF := Lib.hid (((L4.out.cur gR (by omega)).cur gS (by omega)).base_le hq3)
    clear a0 g0 a1 g1 a2 g2 gR S5 d0 h0 d1 h1 d2 h2 gS R5 T4 T5
    go_wp2
    exact bodyPost_ret (v := .tuple #[.slice B q d, .agg #[.int .i64 x.line, .string x.old, .string x.new], .agg #[.int .i64 y.line, .string y.old, .string y.new]]) (by simp [results, Tryz.results15, go_sem, v0, v1, v2, t0, t1, t2]) rfl ⟨⟨_, _, _, _, _, _, rfl, by omega, LF.out, X.out, Y.out⟩, TF.out⟩

theorem implPC_at {s : ByteArray} {y : CO} {b : Bool} (h : parC s = (y, b)) (mx : Int) (ev : Value) (w : World) (hs : s.size ≤ 1048576) (hM : w.cell? ⟨0, 0, none⟩ = some (.int .i64 mx)) (hT : Lib.TabIs Tryz.prog w "internal/strconv.uint64pow10" .u64 Lib.pow10Tab) (hE : w.cell? ⟨1, 0, none⟩ = some ev) (hev : ev = .nilIface ∨ ∃ te pe, ev = .iface te pe) :
    Calls Tryz.prog 8 #[.string s] w fun e w' => e = .returned (.tuple #[.agg #[.int .i64 y.line, .string y.old, .string y.new], .bool b]) ∧ Below w.heap.size w w' := by
  have := implParseCorrection_any s mx ev w hs hM hT hE hev
  rw [h] at this
  exact this
theorem specPC_at {s : ByteArray} {y : CO} {b : Bool} (h : parC s = (y, b)) (w : World) (hs : s.size ≤ 1048576) :
    Calls Tryz.prog 10 #[.string s] w fun e w' => e = .returned (.tuple #[.agg #[.int .i64 y.line, .string y.old, .string y.new], .bool b]) ∧ Below w.heap.size w w' := by
  have := specParseCorrection_any s w hs
  rw [h] at this
  exact this
theorem implSC_at {a b : ByteArray} {y : CO} {t : Bool} (h : scC a b = y) (g : scG a b = t) (mx : Int) (w : World) (ha : a.size ≤ 1048576) (hb : b.size ≤ 1048576) (hM : w.cell? ⟨0, 0, none⟩ = some (.int .i64 mx)) :
    Calls Tryz.prog 12 #[.string a, .string b] w fun e w' => e = .returned (.tuple #[.agg #[.int .i64 y.line, .string y.old, .string y.new], .bool t]) ∧ Below w.heap.size w w' := by
  have := implShort_any a b mx w ha hb hM
  rw [h, g] at this
  exact this
theorem specSC_at {a b : ByteArray} {y : CO} {t : Bool} (h : scC a b = y) (g : scG a b = t) (w : World) (ha : a.size ≤ 1048576) (hb : b.size ≤ 1048576) :
    Calls Tryz.prog 13 #[.string a, .string b] w fun e w' => e = .returned (.tuple #[.agg #[.int .i64 y.line, .string y.old, .string y.new], .bool t]) ∧ Below w.heap.size w w' := by
  have := specShort_any a b w ha hb
  rw [h, g] at this
  exact this
theorem short_sz {a b : ByteArray} (h : scG a b = true) : (scC a b).old.size ≤ 1048576 ∧ (scC a b).new.size ≤ 1048576 := by
  unfold scG at h
  obtain ⟨y, hy⟩ := Option.isSome_iff_exists.1 h
  rw [scC_yes hy]
  obtain ⟨h1, h2, h3, h4, h5⟩ := sh_found hy
  obtain ⟨g1, g2, g3⟩ := coOK_sizes h3
  exact ⟨by omega, by omega⟩


end Go.Proofs.YtmahfkimeclcbaaGreatDoor
