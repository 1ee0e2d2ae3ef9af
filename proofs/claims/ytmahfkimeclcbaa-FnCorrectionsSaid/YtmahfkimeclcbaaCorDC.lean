/-
  YtmahfkimeclcbaaCorDC: corrections: what is drawn for the great law on corrections. (Printed by wip/gen/cordr.py.)
-/
import Derived.Test.YtmahfkimeclcbaaCorDB
import Derived.Test.YtmahfkimeclcbaaCorX
namespace Go.Proofs.Ytmahfkimeclcbaa
open Go Go.RowKit Go.Sort
set_option linter.unusedVariables false

/-- A list of the call's own of corrections with short texts. -/
structure OwnX (w : World) (base : Nat) (A : Option Addr) (n c : Nat) (l : List CO) : Prop where
  own : Own coV 3 w base 26 A n c l
  good : ∀ x ∈ l, CoS x
theorem OwnX.below {w w' : World} {base : Nat} {A : Option Addr} {n c : Nat} {l : List CO} (h : OwnX w base A n c l) (hb : Below w.heap.size w w') : OwnX w' base A n c l := ⟨h.own.below hb, h.good⟩
theorem OwnX.cur {w w' : World} {base : Nat} {A : Option Addr} {n c g : Nat} {l : List CO} (h : OwnX w base A n c l) (hg : w.grownBy w' (some g)) (hb : g < base) : OwnX w' base A n c l := ⟨h.own.cur hg hb, h.good⟩
theorem OwnX.base_le {w : World} {base b : Nat} {A : Option Addr} {n c : Nat} {l : List CO} (h : OwnX w base A n c l) (hb : b ≤ base) : OwnX w b A n c l := ⟨h.own.base_le hb, h.good⟩
theorem good_appX {l l' : List CO} (h : ∀ x ∈ l, CoS x) (h' : ∀ x ∈ l', CoS x) : ∀ x ∈ l ++ l', CoS x := fun x hx => (List.mem_append.1 hx).elim (h x) (h' x)
theorem good_oneX {y : CO} (h : CoS y) : ∀ x ∈ [y], CoS x := fun x hx => by rw [List.mem_singleton.1 hx]; exact h
theorem Try.infocoD : (Try.prog.info? 26).map (fun i => (i.zero, i.size, i.bytes)) = some (some (.agg #[.int .i64 0, .string ByteArray.empty, .string ByteArray.empty]), 3, 40) := by kernel_rfl
theorem flat_takeP {α : Type} {enc : α → List Value} {sz : Nat} (he : ∀ x, (enc x).length = sz) : ∀ (l : List α) (k : Nat), (l.take k).flatMap enc = (l.flatMap enc).take (k * sz)
  | [], k => by simp
  | y :: r, 0 => by simp
  | y :: r, k + 1 => by
    rw [List.take_succ_cons, List.flatMap_cons, List.flatMap_cons, flat_takeP he r k, Nat.add_mul, Nat.one_mul, List.take_append, he]
    rw [show (enc y).take (k * sz + sz) = enc y from List.take_of_length_le (by rw [he]; omega), show k * sz + sz - sz = k * sz from by omega]
/-- The head of a row is a row. -/
theorem Own.takeP {α : Type} {enc : α → List Value} {sz : Nat} {w : World} {base : Nat} {e : TypeId} {A : Option Addr} {n c : Nat} {l : List α} (h : Own enc sz w base e A n c l) (he : ∀ x, (enc x).length = sz) {k : Nat} (hk : k ≤ n) : Own enc sz w base e A k c (l.take k) := by
  refine ⟨by rw [List.length_take, h.len]; omega, by rw [flat_takeP he, List.length_take, h.row.1]; exact Nat.min_eq_left (Nat.mul_le_mul_right _ hk), ?_⟩
  rcases h.row.2 with ⟨h1, h2⟩ | ⟨g, cap, cur, hv, hb, hg, hn, hc, hs, ht⟩
  · simp only [Value.slice.injEq] at h1
    obtain ⟨rfl, rfl, rfl⟩ := h1
    obtain rfl : k = 0 := by omega
    exact .inl ⟨rfl, rfl⟩
  · simp only [Value.slice.injEq] at hv
    obtain ⟨rfl, -, rfl⟩ := hv
    refine .inr ⟨g, c, cur, rfl, hb, hg, by omega, hc, hs, ?_⟩
    rw [flat_takeP he, ← ht, List.take_take, Nat.min_eq_left (Nat.mul_le_mul_right _ hk)]
theorem sh_good {l : List ByteArray} {x : CO} (h : shG l x = true) : ∀ s ∈ shL l x, s.size ≤ 60 := fun s hs => by
  obtain ⟨h1, h2⟩ := sh_parts h
  rw [shL_yes h] at hs
  have h3 := corrL_sheet h1 h2
  unfold sheetB at h3
  rw [Bool.and_eq_true] at h3
  have := line_sz (List.all_eq_true.1 h3.1 s hs)
  omega
theorem cell_cur {w w' : World} {g b i : Nat} {v : Value} (hg : w.grownBy w' (some g)) (h : w.cell? ⟨b, i, none⟩ = some v) (hne : b ≠ g) : w'.cell? ⟨b, i, none⟩ = some v := by
  rw [World.cell?_of_block (a := ⟨b, i, none⟩) (hg.block b (lt_of_cell h) (fun e => hne (by injection e)))]
  exact h
theorem cell_drew {w : World} {a : Addr} {v : Value} (h : w.cell? a = some v) : w.drew.cell? a = some v := h
theorem co1M {x : CO} (h : CoS x) : x.old.size ≤ 1048576 ∧ x.new.size ≤ 1048576 := ⟨Nat.le_trans h.1 (by omega), Nat.le_trans h.2 (by omega)⟩
theorem t1M {l : List ByteArray} (h : ∀ s ∈ l, s.size ≤ 60) : ∀ s ∈ l, s.size ≤ 1048576 := fun s hs => Nat.le_trans (h s hs) (by omega)

theorem Own.ne_row {α β : Type} {enc : α → List Value} {enc' : β → List Value} {sz sz' : Nat} {w : World} {base base' b : Nat} {e e' : TypeId} {A : Option Addr} {n c n' c' : Nat} {l : List α} {l' : List β} (h : Own enc sz w base e A n c l) (h' : Own enc' sz' w base' e' (some ⟨b, 0, none⟩) n' c' l') (he : e ≠ e' := by decide) : blockOf A = none ∨ blockOf A ≠ some b := by
  exact Own.ty_apart h h' he

set_option maxRecDepth 100000 in
set_option maxHeartbeats 2000000 in
theorem drawCorrect_any (A : Option Addr) (n c : Nat) (l : List Int) (w : World) (ha : Rd byV 1 w A n c l) (hb : ∀ x ∈ l, 0 ≤ x ∧ x ≤ 255) : Calls Try.prog 5 #[.slice A n c] w fun e w' => (∃ B q d l x, e = .returned (.tuple #[.slice B q d, .agg #[.int .i64 (CO.line x), .string x.old, .string x.new]]) ∧ q ≤ 13 ∧ OwnT w' w.heap.size B q d l ∧ CoS x) ∧ Below w.heap.size w w' := by
  have R0 := Lib.hid (own_one (enc := coV) w #[.int .i64 0, .string ⟨#[]⟩, .string ⟨#[]⟩] 26 (⟨0, ⟨#[]⟩, ⟨#[]⟩⟩ : CO) rfl rfl)
  have b0 := below_alloc (w := w) (.cells #[.int .i64 0, .string ⟨#[]⟩, .string ⟨#[]⟩] 26)
  have hws : w.heap.size < (w.alloc (.cells #[.int .i64 0, .string ⟨#[]⟩, .string ⟨#[]⟩] 26)).heap.size := by simp
  have hsz : (w.alloc (.cells #[.int .i64 0, .string ⟨#[]⟩, .string ⟨#[]⟩] 26)).heap.size = w.heap.size + 1 := by simp
  have ha1 := ha.below b0
  clear ha
  go_enter Try.func5, Try.ntmps5
  go_wp2_with fail
  generalize hwa : w.alloc (.cells #[.int .i64 0, .string ⟨#[]⟩, .string ⟨#[]⟩] 26) = wa at *
  clear hwa
  have C0 := Lib.hid (Cur.start ha1 hb)
  have c0 := below_alloc (w := wa) (.cells #[.slice A n c, .int .i64 0, .int .u64 0] 44)
  have R1 := Lib.hid (R0.out.below c0)
  have hN : ∀ k, blockOf (some (⟨w.heap.size, 0, none⟩ : Addr)) = some k → k ≠ wa.heap.size := fun k hk => by simp [blockOf] at hk; omega
  have hq2 : wa.heap.size < (wa.alloc (.cells #[.slice A n c, .int .i64 0, .int .u64 0] 44)).heap.size := by simp
  generalize hwb : wa.alloc (.cells #[.slice A n c, .int .i64 0, .int .u64 0] 44) = wb at *
  clear hwb
  have HZ := Lib.hid hsz
  clear hsz
  refine (sheet_any (w.heap.size + 1) 0 _ (by rw [← HZ.out]; exact C0.out) (by omega)).mono ?_
  rintro e w1 ⟨⟨B, q, d, lp, rfl, hq, o1⟩, hc, hg⟩
  rw [← HZ.out] at hg hc
  have C1 := Lib.hid hc
  have G1 := Lib.hid hg
  have L1 := Lib.hid o1
  have R2 := Lib.hid (R1.out.curOld hg hN)
  have hblk : ∀ a, B = some a → a.block ≠ w.heap.size + 1 := fun a ha => by have := (o1.own.lt (k := a.block) (by rw [ha]; rfl)).1; rw [← HZ.out]; omega
  clear hc hg o1 C0 R0 R1
  go_wp2_with fail
  refine (correction_any (w.heap.size + 1) 100 _ _ _ lp _ (by rw [← HZ.out]; exact C1.out.le (by omega)) (by omega) (L1.out.own.rd stV_len) hblk (by omega) L1.out.good).mono ?_
  rintro e w2 ⟨⟨x, rfl, hx⟩, hc, hg⟩
  rw [← HZ.out] at hg hc
  have X := Lib.hid hx
  have C2 := Lib.hid hc
  have G2 := Lib.hid (grown_trans G1.out hg)
  have L2 := Lib.hid (L1.out.cur hg hq2)
  have R3 := Lib.hid (R2.out.curOld hg hN)
  have hq3 : w.heap.size ≤ wb.heap.size := by omega
  clear hc hg C1 G1 L1 R2 hx
  have T2 := Lib.hid (b0.trans ((c0.mono (Nat.le_of_lt hws)).trans ((below_cur G2.out (Nat.le_refl _) (Nat.le_of_lt hq2)).mono (Nat.le_of_lt hws))))
  clear b0 c0 G2 C2
  obtain ⟨⟨r0, r1, r2⟩, z0, z1, z2⟩ := bx_cells R3.out
  obtain ⟨y0, g0⟩ := bx_set0 R3.out (x.line)
  obtain ⟨y1, g1⟩ := bx_set1 y0 (x.old)
  obtain ⟨y2, g2⟩ := bx_set2 y1 (x.new)
  have TF := Lib.hid ((T2.out).grown (grown_trans (grown_trans g0 g1) g2) (T2.out).size (fun k hk => by injection hk with hk; omega))
  have LF := Lib.hid (OwnT.mk ((L2.out.own.grown (grown_trans (grown_trans g0 g1) g2) (L2.out.own.ne_row R3.out)).base_le hq3) L2.out.good)
  obtain ⟨⟨v0, v1, v2⟩, -⟩ := bx_cells y2
  clear y0 g0 y1 g1 y2 g2
  go_wp2
  exact bodyPost_ret (v := .tuple #[.slice B q d, .agg #[.int .i64 x.line, .string x.old, .string x.new]]) (by simp [results, Try.results5, go_sem, v0, v1, v2]) rfl ⟨⟨_, _, _, _, _, rfl, by omega, LF.out, X.out⟩, TF.out⟩


set_option maxRecDepth 100000 in
set_option maxHeartbeats 4000000 in
theorem drawUndo_any (A : Option Addr) (n c : Nat) (l : List Int) (w : World) (ha : Rd byV 1 w A n c l) (hb : ∀ x ∈ l, 0 ≤ x ∧ x ≤ 255) : Calls Try.prog 13 #[.slice A n c] w fun e w' => (∃ B q d l x, e = .returned (.tuple #[.slice B q d, .agg #[.int .i64 (CO.line x), .string x.old, .string x.new]]) ∧ q ≤ 13 ∧ OwnT w' w.heap.size B q d l ∧ CoS x) ∧ Below w.heap.size w w' := by
  have R0 := Lib.hid (own_one (enc := coV) w #[.int .i64 0, .string ⟨#[]⟩, .string ⟨#[]⟩] 26 (⟨0, ⟨#[]⟩, ⟨#[]⟩⟩ : CO) rfl rfl)
  have b0 := below_alloc (w := w) (.cells #[.int .i64 0, .string ⟨#[]⟩, .string ⟨#[]⟩] 26)
  have hws : w.heap.size < (w.alloc (.cells #[.int .i64 0, .string ⟨#[]⟩, .string ⟨#[]⟩] 26)).heap.size := by simp
  have hsz : (w.alloc (.cells #[.int .i64 0, .string ⟨#[]⟩, .string ⟨#[]⟩] 26)).heap.size = w.heap.size + 1 := by simp
  have ha1 := ha.below b0
  clear ha
  go_enter Try.func13, Try.ntmps13
  go_wp2_with fail
  generalize hwa : w.alloc (.cells #[.int .i64 0, .string ⟨#[]⟩, .string ⟨#[]⟩] 26) = wa at *
  clear hwa
  have C0 := Lib.hid (Cur.start ha1 hb)
  have c0 := below_alloc (w := wa) (.cells #[.slice A n c, .int .i64 0, .int .u64 0] 44)
  have R1 := Lib.hid (R0.out.below c0)
  have hN : ∀ k, blockOf (some (⟨w.heap.size, 0, none⟩ : Addr)) = some k → k ≠ wa.heap.size := fun k hk => by simp [blockOf] at hk; omega
  have hq2 : wa.heap.size < (wa.alloc (.cells #[.slice A n c, .int .i64 0, .int .u64 0] 44)).heap.size := by simp
  generalize hwb : wa.alloc (.cells #[.slice A n c, .int .i64 0, .int .u64 0] 44) = wb at *
  clear hwb
  have HZ := Lib.hid hsz
  clear hsz
  refine (sheet_any (w.heap.size + 1) 0 _ (by rw [← HZ.out]; exact C0.out) (by omega)).mono ?_
  rintro e w1 ⟨⟨B, q, d, lp, rfl, hq, o1⟩, hc, hg⟩
  rw [← HZ.out] at hg hc
  have C1 := Lib.hid hc
  have G1 := Lib.hid hg
  have L1 := Lib.hid o1
  have R2 := Lib.hid (R1.out.curOld hg hN)
  have hblk : ∀ a, B = some a → a.block ≠ w.heap.size + 1 := fun a ha => by have := (o1.own.lt (k := a.block) (by rw [ha]; rfl)).1; rw [← HZ.out]; omega
  clear hc hg o1 C0 R0 R1
  go_wp2_with fail
  refine (correction_any (w.heap.size + 1) 100 _ _ _ lp _ (by rw [← HZ.out]; exact C1.out.le (by omega)) (by omega) (L1.out.own.rd stV_len) hblk (by omega) L1.out.good).mono ?_
  rintro e w2 ⟨⟨x, rfl, hx⟩, hc, hg⟩
  rw [← HZ.out] at hg hc
  have X := Lib.hid hx
  have C2 := Lib.hid hc
  have G2 := Lib.hid (grown_trans G1.out hg)
  have L2 := Lib.hid (L1.out.cur hg hq2)
  have R3 := Lib.hid (R2.out.curOld hg hN)
  have hq3 : w.heap.size ≤ wb.heap.size := by omega
  clear hc hg C1 G1 L1 R2 hx
  have xb := below_alloc (w := w2) (.cells #[.int .i64 x.line, .string x.old, .string x.new] 26)
  have C3 := Lib.hid (C2.out.below xb)
  have G3 := Lib.hid (grown_below G2.out xb)
  have L3 := Lib.hid (L2.out.below xb)
  have R4 := Lib.hid (R3.out.below xb)
  have x0 : (w2.alloc (.cells #[.int .i64 x.line, .string x.old, .string x.new] 26)).cell? ⟨w2.heap.size, 0, none⟩ = some (.int .i64 x.line) := cell_of_row _ _ 0 _ _ _ (heap_new rfl)
  have x1 : (w2.alloc (.cells #[.int .i64 x.line, .string x.old, .string x.new] 26)).cell? ⟨w2.heap.size, 1, none⟩ = some (.string x.old) := cell_of_row _ _ 1 _ _ _ (heap_new rfl)
  have x2 : (w2.alloc (.cells #[.int .i64 x.line, .string x.old, .string x.new] 26)).cell? ⟨w2.heap.size, 2, none⟩ = some (.string x.new) := cell_of_row _ _ 2 _ _ _ (heap_new rfl)
  have hxb : wa.heap.size < w2.heap.size := C2.out.lt
  clear C2 G2 L2 R3
  go_wp2_with fail
  generalize hw3 : w2.alloc (.cells #[.int .i64 x.line, .string x.old, .string x.new] 26) = w3 at *
  clear hw3 xb
  refine (specCorrectSheet_any _ _ _ lp x _ (L3.out.own.rd stV_len) (by omega) (t1M L3.out.good) (co1M X.out).1 (co1M X.out).2).mono ?_
  rintro e w4 ⟨⟨B2, q2, d2, rfl, o2⟩, b4⟩
  have hg3 := G3.out.size
  have C4 := Lib.hid (C3.out.below b4)
  have G4 := Lib.hid (grown_below G3.out b4)
  have L4 := Lib.hid (L3.out.below b4)
  have R5 := Lib.hid (R4.out.below b4)
  have M4 := Lib.hid (o2.base_le hg3)
  have hql : q2 ≤ 13 := by rw [← o2.len]; exact Nat.le_trans (shL_len lp x) (by rw [L3.out.own.len]; omega)
  replace x0 := cell_below b4 x0
  replace x1 := cell_below b4 x1
  replace x2 := cell_below b4 x2
  clear C3 G3 L3 R4 o2 b4 hg3
  cases hok : shG lp x
  · clear hok
    have T2 := Lib.hid (b0.trans ((c0.mono (Nat.le_of_lt hws)).trans ((below_cur G4.out (Nat.le_refl _) (Nat.le_of_lt hq2)).mono (Nat.le_of_lt hws))))
    clear b0 c0 G4 C4 M4
    obtain ⟨⟨r0, r1, r2⟩, z0, z1, z2⟩ := bx_cells R5.out
    obtain ⟨y0, g0⟩ := bx_set0 R5.out (x.line)
    obtain ⟨y1, g1⟩ := bx_set1 y0 (x.old)
    obtain ⟨y2, g2⟩ := bx_set2 y1 (x.new)
    have TF := Lib.hid ((T2.out).grown (grown_trans (grown_trans g0 g1) g2) (T2.out).size (fun k hk => by injection hk with hk; omega))
    have LF := Lib.hid (OwnT.mk ((L4.out.own.grown (grown_trans (grown_trans g0 g1) g2) (L4.out.own.ne_row R5.out)).base_le hq3) L4.out.good)
    obtain ⟨⟨v0, v1, v2⟩, -⟩ := bx_cells y2
    clear y0 g0 y1 g1 y2 g2
    go_wp2_with fail
    go_region
    replace v0 := cell_drew v0
    replace v1 := cell_drew v1
    replace v2 := cell_drew v2
    replace TF := Lib.hid TF.out.drew
    replace LF := Lib.hid (OwnT.mk LF.out.own.drew LF.out.good)
    go_wp2
    exact bodyPost_ret (v := .tuple #[.slice B q d, .agg #[.int .i64 x.line, .string x.old, .string x.new]]) (by simp [results, Try.results13, go_sem, v0, v1, v2]) rfl ⟨⟨_, _, _, _, _, rfl, by omega, LF.out, X.out⟩, TF.out⟩
  · have gd := Lib.hid (sh_good hok)
    clear hok
    go_wp2_with fail
    refine (one_any (w.heap.size + 1) 200 4 _ (by rw [← HZ.out]; exact C4.out.le (by omega)) (by omega) (by omega) (by omega)).mono ?_
    rintro e w5 ⟨⟨y, rfl⟩, hc, hg⟩
    rw [← HZ.out] at hg
    have G5 := Lib.hid (grown_trans G4.out hg)
    have L5 := Lib.hid (L4.out.cur hg hq2)
    have M5 := Lib.hid (OwnT.mk (M4.out.cur hg hq2) gd.out)
    have R6 := Lib.hid (R5.out.curOld hg hN)
    replace x0 := cell_cur hg x0 (by omega)
    replace x1 := cell_cur hg x1 (by omega)
    replace x2 := cell_cur hg x2 (by omega)
    clear hc hg C4 G4 L4 M4 R5
    have T2 := Lib.hid (b0.trans ((c0.mono (Nat.le_of_lt hws)).trans ((below_cur G5.out (Nat.le_refl _) (Nat.le_of_lt hq2)).mono (Nat.le_of_lt hws))))
    clear b0 c0 G5
    cases y
    · clear L5
      obtain ⟨⟨r0, r1, r2⟩, z0, z1, z2⟩ := bx_cells R6.out
      obtain ⟨y0, g0⟩ := bx_set0 R6.out (x.line)
      obtain ⟨y1, g1⟩ := bx_set1 y0 (x.old)
      obtain ⟨y2, g2⟩ := bx_set2 y1 (x.new)
      have TF := Lib.hid ((T2.out).grown (grown_trans (grown_trans g0 g1) g2) (T2.out).size (fun k hk => by injection hk with hk; omega))
      have LF := Lib.hid (OwnT.mk ((M5.out.own.grown (grown_trans (grown_trans g0 g1) g2) (M5.out.own.ne_row R6.out)).base_le hq3) M5.out.good)
      obtain ⟨⟨v0, v1, v2⟩, -⟩ := bx_cells y2
      clear y0 g0 y1 g1 y2 g2
      go_wp2_with fail
      go_region
      replace v0 := cell_drew v0
      replace v1 := cell_drew v1
      replace v2 := cell_drew v2
      replace TF := Lib.hid TF.out.drew
      replace LF := Lib.hid (OwnT.mk LF.out.own.drew LF.out.good)
      go_wp2
      exact bodyPost_ret (v := .tuple #[.slice B2 q2 d2, .agg #[.int .i64 x.line, .string x.old, .string x.new]]) (by simp [results, Try.results13, go_sem, v0, v1, v2]) rfl ⟨⟨_, _, _, _, _, rfl, by omega, LF.out, X.out⟩, TF.out⟩
    · clear M5
      obtain ⟨⟨r0, r1, r2⟩, z0, z1, z2⟩ := bx_cells R6.out
      obtain ⟨y0, g0⟩ := bx_set0 R6.out (x.line)
      obtain ⟨y1, g1⟩ := bx_set1 y0 (x.old)
      obtain ⟨y2, g2⟩ := bx_set2 y1 (x.new)
      have TF := Lib.hid ((T2.out).grown (grown_trans (grown_trans g0 g1) g2) (T2.out).size (fun k hk => by injection hk with hk; omega))
      have LF := Lib.hid (OwnT.mk ((L5.out.own.grown (grown_trans (grown_trans g0 g1) g2) (L5.out.own.ne_row R6.out)).base_le hq3) L5.out.good)
      obtain ⟨⟨v0, v1, v2⟩, -⟩ := bx_cells y2
      clear y0 g0 y1 g1 y2 g2
      go_wp2_with fail
      go_region
      replace v0 := cell_drew v0
      replace v1 := cell_drew v1
      replace v2 := cell_drew v2
      replace TF := Lib.hid TF.out.drew
      replace LF := Lib.hid (OwnT.mk LF.out.own.drew LF.out.good)
      go_wp2
      exact bodyPost_ret (v := .tuple #[.slice B q d, .agg #[.int .i64 x.line, .string x.old, .string x.new]]) (by simp [results, Try.results13, go_sem, v0, v1, v2]) rfl ⟨⟨_, _, _, _, _, rfl, by omega, LF.out, X.out⟩, TF.out⟩


end Go.Proofs.Ytmahfkimeclcbaa
