/-
  YthphjncgbaknnaaGreatDoorMinDr: minutes: what is drawn for the great law on sentences. (Printed by wip/gen/zmin.py.)
-/
import Derived.Test.YthphjncgbaknnaaGreatDoorMinF
import Derived.Test.YthphjncgbaknnaaGreatDoorMinZ
import Derived.Test.YthphjncgbaknnaaGreatDoorMinH
import Derived.Test.YthphjncgbaknnaaGreatDoorSpo
namespace Go.Proofs.YthphjncgbaknnaaGreatDoor
open Go Go.RowKit Go.Sort
set_option linter.unusedVariables false

theorem senL_80 (x : EN) : (senL x).size ≤ 80 := by
  unfold senL
  by_cases h : enOK x = true
  · rw [if_pos h]; exact (senS_80 (of_decide_eq_true h)).1
  · rw [if_neg h]; decide
theorem menL_1700 (l : List EN) : (menL l).size ≤ 1700 := by
  unfold menL
  by_cases h : minB l = true
  · rw [if_pos h]; exact men_1700 h
  · rw [if_neg h]; decide
theorem senL_hit {x : EN} (h : enOK x = true) : parE (senL x) = (x, true) := parE_hit h (by unfold senL; rw [if_pos h])
theorem menL_hit {l : List EN} (h : minB l = true) : parM (menL l) = (l, true) := parM_hit h (by unfold menL; rw [if_pos h])

set_option maxRecDepth 100000 in
set_option maxHeartbeats 2000000 in
theorem drawEntry_any (A : Option Addr) (n c : Nat) (l : List Int) (w : World) (ha : Rd byV 1 w A n c l) (hb : ∀ x ∈ l, 0 ≤ x ∧ x ≤ 255) : Calls Tryz.prog 19 #[.slice A n c] w fun e w' => (∃ x : EN, e = .returned (.agg #[.int .i64 x.kind, .string x.who, .string x.mo, .int .i64 x.yes, .int .i64 x.no, .int .i64 x.ab, .bool x.pa]) ∧ EnS x) ∧ Below w.heap.size w w' := by
  have R0 := Lib.hid (own_one (enc := enV) w #[.int .i64 0, .string ⟨#[]⟩, .string ⟨#[]⟩, .int .i64 0, .int .i64 0, .int .i64 0, .bool false] 27 (⟨0, ⟨#[]⟩, ⟨#[]⟩, 0, 0, 0, false⟩ : EN) rfl rfl)
  have b0 := below_alloc (w := w) (.cells #[.int .i64 0, .string ⟨#[]⟩, .string ⟨#[]⟩, .int .i64 0, .int .i64 0, .int .i64 0, .bool false] 27)
  have hws : w.heap.size < (w.alloc (.cells #[.int .i64 0, .string ⟨#[]⟩, .string ⟨#[]⟩, .int .i64 0, .int .i64 0, .int .i64 0, .bool false] 27)).heap.size := by simp
  have hsz : (w.alloc (.cells #[.int .i64 0, .string ⟨#[]⟩, .string ⟨#[]⟩, .int .i64 0, .int .i64 0, .int .i64 0, .bool false] 27)).heap.size = w.heap.size + 1 := by simp
  have ha1 := ha.below b0
  clear ha
  go_enter Tryz.func19, Tryz.ntmps19
  go_wp2_with fail
  generalize hwa : w.alloc (.cells #[.int .i64 0, .string ⟨#[]⟩, .string ⟨#[]⟩, .int .i64 0, .int .i64 0, .int .i64 0, .bool false] 27) = wa at *
  clear hwa
  have C0 := Lib.hid (Cur.start ha1 hb)
  have c0 := below_alloc (w := wa) (.cells #[.slice A n c, .int .i64 0, .int .u64 0] 48)
  have R1 := Lib.hid (R0.out.below c0)
  have hN : ∀ k, blockOf (some (⟨w.heap.size, 0, none⟩ : Addr)) = some k → k ≠ wa.heap.size := fun k hk => by simp [blockOf] at hk; omega
  have hq2 : wa.heap.size ≤ (wa.alloc (.cells #[.slice A n c, .int .i64 0, .int .u64 0] 48)).heap.size := by simp
  generalize hwb : wa.alloc (.cells #[.slice A n c, .int .i64 0, .int .u64 0] 48) = wb at *
  clear hwb
  have HZ := Lib.hid hsz
  clear hsz
  refine (entry_any (w.heap.size + 1) 0 _ (by rw [← HZ.out]; exact C0.out) (by omega)).mono ?_
  rintro e w2 ⟨⟨x, rfl, hx⟩, hc, hg⟩
  have X := Lib.hid hx
  rw [← HZ.out] at hg
  have T2 := Lib.hid (b0.trans ((c0.mono (Nat.le_of_lt hws)).trans ((below_cur hg (Nat.le_refl _) hq2).mono (Nat.le_of_lt hws))))
  have R2 := Lib.hid (R1.out.curOld hg hN)
  clear hc hg C0 R0 R1 b0 c0 hx
  obtain ⟨⟨r0, r1, r2, r3, r4, r5, r6⟩, z0, z1, z2, z3, z4, z5, z6⟩ := bx_cells R2.out
  obtain ⟨y0, g0⟩ := bx_set0 R2.out (x.kind)
  obtain ⟨y1, g1⟩ := bx_set1 y0 (x.who)
  obtain ⟨y2, g2⟩ := bx_set2 y1 (x.mo)
  obtain ⟨y3, g3⟩ := bx_set3 y2 (x.yes)
  obtain ⟨y4, g4⟩ := bx_set4 y3 (x.no)
  obtain ⟨y5, g5⟩ := bx_set5 y4 (x.ab)
  obtain ⟨y6, g6⟩ := bx_set6 y5 (x.pa)
  have TF := Lib.hid ((T2.out).grown (grown_trans (grown_trans (grown_trans (grown_trans (grown_trans (grown_trans g0 g1) g2) g3) g4) g5) g6) (T2.out).size (fun k hk => by injection hk with hk; omega))
  obtain ⟨⟨v0, v1, v2, v3, v4, v5, v6⟩, -⟩ := bx_cells y6
  clear y0 g0 y1 g1 y2 g2 y3 g3 y4 g4 y5 g5 y6 g6
  go_wp2
  exact bodyPost_ret (v := .agg #[.int .i64 x.kind, .string x.who, .string x.mo, .int .i64 x.yes, .int .i64 x.no, .int .i64 x.ab, .bool x.pa]) (by simp [results, Tryz.results19, go_sem, v0, v1, v2, v3, v4, v5, v6]) rfl ⟨⟨_, rfl, X.out⟩, TF.out⟩

set_option maxRecDepth 100000 in
set_option maxHeartbeats 2000000 in
theorem drawEntryText_any (A : Option Addr) (n c : Nat) (l : List Int) (w : World) (ha : Rd byV 1 w A n c l) (hb : ∀ x ∈ l, 0 ≤ x ∧ x ≤ 255) : Calls Tryz.prog 5 #[.slice A n c] w fun e w' => (∃ x : EN, e = .returned (.agg #[.int .i64 x.kind, .string x.who, .string x.mo, .int .i64 x.yes, .int .i64 x.no, .int .i64 x.ab, .bool x.pa]) ∧ EnS x) ∧ Below w.heap.size w w' := by
  have R0 := Lib.hid (own_one (enc := enV) w #[.int .i64 0, .string ⟨#[]⟩, .string ⟨#[]⟩, .int .i64 0, .int .i64 0, .int .i64 0, .bool false] 27 (⟨0, ⟨#[]⟩, ⟨#[]⟩, 0, 0, 0, false⟩ : EN) rfl rfl)
  have b0 := below_alloc (w := w) (.cells #[.int .i64 0, .string ⟨#[]⟩, .string ⟨#[]⟩, .int .i64 0, .int .i64 0, .int .i64 0, .bool false] 27)
  have ha1 := ha.below b0
  clear ha
  go_enter Tryz.func5, Tryz.ntmps5
  go_wp2_with fail
  refine (drawEntry_any _ _ _ _ _ ha1 hb).mono ?_
  rintro e w2 ⟨⟨x, rfl, hx⟩, b2⟩
  have X := Lib.hid hx
  have T2 := Lib.hid (below_trans b0 b2)
  have R2 := Lib.hid (R0.out.below b2)
  clear R0 b0 b2 hx
  obtain ⟨⟨r0, r1, r2, r3, r4, r5, r6⟩, z0, z1, z2, z3, z4, z5, z6⟩ := bx_cells R2.out
  obtain ⟨y0, g0⟩ := bx_set0 R2.out (x.kind)
  obtain ⟨y1, g1⟩ := bx_set1 y0 (x.who)
  obtain ⟨y2, g2⟩ := bx_set2 y1 (x.mo)
  obtain ⟨y3, g3⟩ := bx_set3 y2 (x.yes)
  obtain ⟨y4, g4⟩ := bx_set4 y3 (x.no)
  obtain ⟨y5, g5⟩ := bx_set5 y4 (x.ab)
  obtain ⟨y6, g6⟩ := bx_set6 y5 (x.pa)
  have TF := Lib.hid ((T2.out).grown (grown_trans (grown_trans (grown_trans (grown_trans (grown_trans (grown_trans g0 g1) g2) g3) g4) g5) g6) (T2.out).size (fun k hk => by injection hk with hk; omega))
  obtain ⟨⟨v0, v1, v2, v3, v4, v5, v6⟩, -⟩ := bx_cells y6
  clear y0 g0 y1 g1 y2 g2 y3 g3 y4 g4 y5 g5 y6 g6
  go_wp2
  exact bodyPost_ret (v := .agg #[.int .i64 x.kind, .string x.who, .string x.mo, .int .i64 x.yes, .int .i64 x.no, .int .i64 x.ab, .bool x.pa]) (by simp [results, Tryz.results5, go_sem, v0, v1, v2, v3, v4, v5, v6]) rfl ⟨⟨_, rfl, X.out⟩, TF.out⟩

set_option maxRecDepth 100000 in
set_option maxHeartbeats 2000000 in
theorem drawParseEntry_any (A : Option Addr) (n c : Nat) (l : List Int) (w : World) (ha : Rd byV 1 w A n c l) (hb : ∀ x ∈ l, 0 ≤ x ∧ x ≤ 255) : Calls Tryz.prog 10 #[.slice A n c] w fun e w' => (∃ s : ByteArray, e = .returned (.string s) ∧ s.size ≤ 82) ∧ Below w.heap.size w w' := by
  have C0 := Lib.hid (Cur.start ha hb)
  have b0 := below_alloc (w := w) (.cells #[.slice A n c, .int .i64 0, .int .u64 0] 48)
  have hgw : w.heap.size < (w.alloc (.cells #[.slice A n c, .int .i64 0, .int .u64 0] 48)).heap.size := by simp
  go_enter Tryz.func10, Tryz.ntmps10
  go_wp2_with fail
  generalize hw0 : w.alloc (.cells #[.slice A n c, .int .i64 0, .int .u64 0] 48) = w0 at *
  clear hw0
  refine (entry_any w.heap.size 0 _ C0.out (by omega)).mono ?_
  rintro e w1 ⟨⟨x, rfl, hx⟩, hc, hg⟩
  have C1 := Lib.hid hc
  have G1 := Lib.hid hg
  have X := Lib.hid hx
  clear hx
  clear hc hg C0
  go_wp2_with fail
  refine (specEntryText_any x _ (ens_sz X.out).1 (ens_sz X.out).2).mono ?_
  rintro e w2 ⟨rfl, b2⟩
  have C2 := Lib.hid (C1.out.below b2)
  have G2 := Lib.hid (grown_below G1.out b2)
  have S := Lib.hid (show (senL x).size ≤ 80 from senL_80 x)
  generalize senL x = s at *
  have hs := S.out
  clear C1 G1 b2
  go_wp2_with fail
  refine (one_any w.heap.size 30 4 _ (C2.out.le (by omega)) (by omega) (by omega) (by omega)).mono ?_
  rintro e w3 ⟨⟨y, rfl⟩, hc, hg⟩
  have C3 := Lib.hid hc
  have G3 := Lib.hid (grown_trans G2.out hg)
  clear hc hg C2 G2
  cases y
  · go_wp2
    go_ret
    exact ⟨⟨_, rfl, by omega⟩, (b0.trans (below_cur G3.out (Nat.le_refl _) (Nat.le_of_lt hgw)))⟩
  · go_wp2_with fail
    refine (spoilt_any w.heap.size 32 s ⟨#[48, 46, 32, 84, 97]⟩ _ (C3.out.le (by omega)) (by omega) (by omega) (by decide) (by decide)).mono ?_
    rintro e w4 ⟨⟨x, rfl, hx⟩, hc, hg⟩
    have G4 := Lib.hid (grown_trans G3.out hg)
    clear hc hg C3 G3
    go_wp2
    go_ret
    exact ⟨⟨_, rfl, by omega⟩, (b0.trans (below_cur G4.out (Nat.le_refl _) (Nat.le_of_lt hgw)))⟩

set_option maxRecDepth 100000 in
set_option maxHeartbeats 2000000 in
theorem drawParseMinutes_any (A : Option Addr) (n c : Nat) (l : List Int) (w : World) (ha : Rd byV 1 w A n c l) (hb : ∀ x ∈ l, 0 ≤ x ∧ x ≤ 255) : Calls Tryz.prog 17 #[.slice A n c] w fun e w' => (∃ s : ByteArray, e = .returned (.string s) ∧ s.size ≤ 1702) ∧ Below w.heap.size w w' := by
  have C0 := Lib.hid (Cur.start ha hb)
  have b0 := below_alloc (w := w) (.cells #[.slice A n c, .int .i64 0, .int .u64 0] 48)
  have hgw : w.heap.size < (w.alloc (.cells #[.slice A n c, .int .i64 0, .int .u64 0] 48)).heap.size := by simp
  go_enter Tryz.func17, Tryz.ntmps17
  go_wp2_with fail
  generalize hw0 : w.alloc (.cells #[.slice A n c, .int .i64 0, .int .u64 0] 48) = w0 at *
  clear hw0
  refine (minutes_any w.heap.size 0 _ C0.out (by omega)).mono ?_
  rintro e w1 ⟨⟨B, q, d, lp, rfl, hq, o1⟩, hc, hg⟩
  have C1 := Lib.hid hc
  have G1 := Lib.hid hg
  have L1 := Lib.hid o1
  clear o1
  clear hc hg C0
  go_wp2_with fail
  refine (specMinutesText_any _ _ _ lp _ (L1.out.own.rd enV_len) (fun x hx => ens_sz (L1.out.good x hx))).mono ?_
  rintro e w2 ⟨rfl, b2⟩
  have C2 := Lib.hid (C1.out.below b2)
  have G2 := Lib.hid (grown_below G1.out b2)
  have S := Lib.hid (show (menL lp).size ≤ 1700 from menL_1700 lp)
  generalize menL lp = s at *
  have hs := S.out
  clear C1 G1 b2
  go_wp2_with fail
  refine (one_any w.heap.size 600 4 _ (C2.out.le (by omega)) (by omega) (by omega) (by omega)).mono ?_
  rintro e w3 ⟨⟨y, rfl⟩, hc, hg⟩
  have C3 := Lib.hid hc
  have G3 := Lib.hid (grown_trans G2.out hg)
  clear hc hg C2 G2
  cases y
  · go_wp2
    go_ret
    exact ⟨⟨_, rfl, by omega⟩, (b0.trans (below_cur G3.out (Nat.le_refl _) (Nat.le_of_lt hgw)))⟩
  · go_wp2_with fail
    refine (spoilt_any w.heap.size 602 s ⟨#[48, 46, 32, 84, 97]⟩ _ (C3.out.le (by omega)) (by omega) (by omega) (by decide) (by decide)).mono ?_
    rintro e w4 ⟨⟨x, rfl, hx⟩, hc, hg⟩
    have G4 := Lib.hid (grown_trans G3.out hg)
    clear hc hg C3 G3
    go_wp2
    go_ret
    exact ⟨⟨_, rfl, by omega⟩, (b0.trans (below_cur G4.out (Nat.le_refl _) (Nat.le_of_lt hgw)))⟩

theorem implPE_at {s : ByteArray} {y : EN} {b : Bool} (h : parE s = (y, b)) (mx : Int) (ev : Value) (w : World) (hs : s.size ≤ 1048576) (hM : w.cell? ⟨0, 0, none⟩ = some (.int .i64 mx)) (hT : Lib.TabIs Tryz.prog w "internal/strconv.uint64pow10" .u64 Lib.pow10Tab) (hE : w.cell? ⟨4, 0, none⟩ = some ev) (hev : ev = .nilIface ∨ ∃ te pe, ev = .iface te pe) :
    Calls Tryz.prog 9 #[.string s] w fun e w' => e = .returned (.tuple #[.agg #[.int .i64 y.kind, .string y.who, .string y.mo, .int .i64 y.yes, .int .i64 y.no, .int .i64 y.ab, .bool y.pa], .bool b]) ∧ Below w.heap.size w w' := by
  have := implParseEntry_any s mx ev w hs hM hT hE hev
  rw [h] at this
  exact this
theorem specPE_at {s : ByteArray} {y : EN} {b : Bool} (h : parE s = (y, b)) (w : World) (hs : s.size ≤ 1048576) :
    Calls Tryz.prog 11 #[.string s] w fun e w' => e = .returned (.tuple #[.agg #[.int .i64 y.kind, .string y.who, .string y.mo, .int .i64 y.yes, .int .i64 y.no, .int .i64 y.ab, .bool y.pa], .bool b]) ∧ Below w.heap.size w w' := by
  have := specParseEntry_any s w hs
  rw [h] at this
  exact this
end Go.Proofs.YthphjncgbaknnaaGreatDoor
