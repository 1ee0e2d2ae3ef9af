/-
  YtmahfkimeclcbaaGreatDoorCorG: corrections: both DoCommute.
-/
import Derived.Test.YtmahfkimeclcbaaGreatDoorCorE
import Derived.BigQuiet
namespace Go.Proofs.YtmahfkimeclcbaaGreatDoor
open Go Go.RowKit Go.Sort
set_option linter.unusedVariables false

/-- Two sheets are the same, line by line. -/
def sameB (l r : List ByteArray) : Bool := decide (l = r)
/-- Both orders fit. -/
def comG (l : List ByteArray) (x y : CO) : Bool := allG l [x, y] && allG l [y, x]
def comB (l : List ByteArray) (x y : CO) : Bool := comG l x y && sameB (allL l [x, y]) (allL l [y, x])
theorem comB_no {l : List ByteArray} {x y : CO} (h : comG l x y = false) : comB l x y = false := by simp [comB, h]
theorem comB_yes {l : List ByteArray} {x y : CO} (h : comG l x y = true) : comB l x y = sameB (allL l [x, y]) (allL l [y, x]) := by simp [comB, h]
theorem toList_injG {s t : ByteArray} (h : (s.toList == t.toList) = true) : s = t := by
  have := eq_of_beq h
  rw [Lib.toList_data, Lib.toList_data] at this
  cases s; cases t; congr; exact Array.toList_inj.1 this
theorem allL_len_eq {l : List ByteArray} {xs : List CO} (h : allG l xs = true) : (allL l xs).length = l.length := by
  unfold allG at h
  rw [Bool.and_eq_true] at h
  cases h2 : allC l xs with
  | none => rw [h2] at h; simp at h
  | some r => rw [allL_some h2 h.1]; exact allC_len h2
theorem co_flat (x y : CO) : [x, y].flatMap coV = [.int .i64 x.line, .string x.old, .string x.new, .int .i64 y.line, .string y.old, .string y.new] := rfl
/-- A literal of two corrections reads as their list. -/
theorem rd_two (w : World) (x y : CO) : Rd coV 3 (w.alloc (.cells #[.int .i64 x.line, .string x.old, .string x.new, .int .i64 y.line, .string y.old, .string y.new] 25)) (some ⟨w.heap.size, 0, none⟩) 2 2 [x, y] := by
  refine Own.rd (base := w.heap.size) (e := 25) ⟨rfl, ?_⟩ coV_len
  exact ⟨rfl, .inr ⟨_, _, _, rfl, Nat.le_refl _, heap_new rfl, by omega, by simp [maxLen], rfl, rfl⟩⟩

/-- slices.Equal on two lists of texts. -/
theorem Equal_any (A : Option Addr) (n c : Nat) (xs : List ByteArray) (B : Option Addr) (m d : Nat) (ys : List ByteArray) (w : World) (ha : Rd stV 1 w A n c xs) (hb : Rd stV 1 w B m d ys) :
    Calls Tryz.prog 42 #[.slice A n c, .slice B m d] w fun e w' => e = .returned (.bool (sameB xs ys)) ∧ Below w.heap.size w w' := by
  have hn := ha.le
  have hm := hb.le
  by_cases h : n = m
  · subst h
    by_cases h0 : n = 0
    · subst h0
      refine (Tryz.slices_Equal_string_empty A B c 0 d w (by omega)).mono ?_
      rintro e w' ⟨rfl, rfl⟩
      have e1 := List.eq_nil_of_length_eq_zero ha.len
      have e2 := List.eq_nil_of_length_eq_zero hb.len
      exact ⟨by rw [e1, e2]; rfl, Below.refl _ _⟩
    · obtain ⟨b1, o1, rfl, h1⟩ := ha.at_ (by omega)
      obtain ⟨b2, o2, rfl, h2⟩ := hb.at_ (by omega)
      have g1 : ∀ j, j < xs.length → w.cell? ⟨b1, o1 + j, none⟩ = some (.string (xs.getD j ByteArray.empty)) := fun j hj => by
        have := h1 j xs[j] (List.getElem?_eq_getElem hj) 0 _ rfl
        simpa [List.getD, List.getElem?_eq_getElem hj] using this
      have g2 : ∀ j, j < ys.length → w.cell? ⟨b2, o2 + j, none⟩ = some (.string (ys.getD j ByteArray.empty)) := fun j hj => by
        have := h2 j ys[j] (List.getElem?_eq_getElem hj) 0 _ rfl
        simpa [List.getD, List.getElem?_eq_getElem hj] using this
      refine (Tryz.slices_Equal_string b1 o1 n c b2 o2 n d xs ys w (by rw [ha.len]; exact Nat.le_refl _) (by rw [hb.len]; exact Nat.le_refl _) hn hm g1 g2).mono ?_
      rintro e w' ⟨rfl, nq, rfl⟩
      exact ⟨by rw [List.take_of_length_le (by rw [ha.len]; exact Nat.le_refl _), List.take_of_length_le (by rw [hb.len]; exact Nat.le_refl _)]; rfl, below_drewN (Below.refl _ _) nq⟩
  · refine (Tryz.slices_Equal_string_lens A B n c m d w h).mono ?_
    rintro e w' ⟨rfl, rfl⟩
    exact ⟨ret_bool (by unfold sameB; rw [decide_eq_false_iff_not.2]; intro e1; apply h; rw [← ha.len, ← hb.len, e1]), Below.refl _ _⟩

set_option maxRecDepth 100000 in
set_option maxHeartbeats 2000000 in
theorem implDoCommute_any (A : Option Addr) (n c : Nat) (l : List ByteArray) (x y : CO) (mx : Int) (w : World) (ha : Rd stV 1 w A n c l) (hn : n ≤ 1048576) (hg : ∀ s ∈ l, s.size ≤ 1048576) (hx : x.old.size ≤ 1048576 ∧ x.new.size ≤ 1048576) (hy : y.old.size ≤ 1048576 ∧ y.new.size ≤ 1048576) (hM : w.cell? ⟨0, 0, none⟩ = some (.int .i64 mx)) :
    Calls Tryz.prog 16 #[.slice A n c, .agg #[.int .i64 x.line, .string x.old, .string x.new], .agg #[.int .i64 y.line, .string y.old, .string y.new]] w fun e w' => e = .returned (.tuple #[.bool (comB l x y), .bool (comG l x y)]) ∧ Below w.heap.size w w' := by
  have h1 : ∀ s ∈ [x, y], s.old.size ≤ 1048576 ∧ s.new.size ≤ 1048576 := fun s hs => by simp at hs; rcases hs with rfl | rfl <;> assumption
  have h2 : ∀ s ∈ [y, x], s.old.size ≤ 1048576 ∧ s.new.size ≤ 1048576 := fun s hs => by simp at hs; rcases hs with rfl | rfl <;> assumption
  obtain ⟨wa, hwa⟩ : ∃ wa, wa = (w.alloc (.cells #[.int .i64 x.line, .string x.old, .string x.new] 25)) := ⟨_, rfl⟩
  obtain ⟨wb, hwb⟩ : ∃ wb, wb = wa.alloc (.cells #[.int .i64 y.line, .string y.old, .string y.new] 25) := ⟨_, rfl⟩
  have sa : wa.heap.size = w.heap.size + 1 := by rw [hwa]; simp
  have ba : Below w.heap.size w wa := by rw [hwa]; exact below_alloc _
  have bb : Below wa.heap.size wa wb := by rw [hwb]; exact below_alloc _
  have b0 := below_trans ba bb
  have hx0 : wa.heap[w.heap.size]? = some (.cells #[.int .i64 x.line, .string x.old, .string x.new] 25) := by rw [hwa]; exact heap_new rfl
  have hy0 : wb.heap[w.heap.size + 1]? = some (.cells #[.int .i64 y.line, .string y.old, .string y.new] 25) := by rw [hwb]; exact heap_new sa.symm
  have q0 := fun i => cell_of_row wa (w.heap.size) i _ _ _ hx0
  have x0 : wa.cell? ⟨w.heap.size, 0, none⟩ = some (.int .i64 x.line) := q0 0
  have x1 : wa.cell? ⟨w.heap.size, 1, none⟩ = some (.string x.old) := q0 1
  have x2 : wa.cell? ⟨w.heap.size, 2, none⟩ = some (.string x.new) := q0 2
  clear q0
  have q0 := fun i => cell_of_row wb (w.heap.size + 1) i _ _ _ hy0
  have y0 : wb.cell? ⟨w.heap.size + 1, 0, none⟩ = some (.int .i64 y.line) := q0 0
  have y1 : wb.cell? ⟨w.heap.size + 1, 1, none⟩ = some (.string y.old) := q0 1
  have y2 : wb.cell? ⟨w.heap.size + 1, 2, none⟩ = some (.string y.new) := q0 2
  clear q0
  replace x0 := cell_below bb x0
  replace x1 := cell_below bb x1
  replace x2 := cell_below bb x2
  have sb : wb.heap.size = w.heap.size + 1 + 1 := by rw [hwb]; simp [sa]
  have rt := rd_two wb x y
  rw [sb] at rt
  rw [hwa] at hwb
  clear ba bb hx0 hy0 hwa sa sb
  replace hM := cell_below b0 hM
  go_enter Tryz.func16, Tryz.ntmps16
  go_wp2_with fail
  rw [← hwb]
  clear hwb
  refine (implCorrectAll_any _ _ _ _ _ _ _ _ mx _ ((ha.below b0).alloc _) rt hn hg h1 (cell_below (below_alloc _) hM)).mono ?_
  rintro e w1 ⟨⟨B1, q1, d1, rfl, o1⟩, bc⟩
  have b1 := below_trans (below_alloc _) bc
  have t1 := below_trans b0 b1
  clear bc
  replace x0 := cell_below b1 x0
  replace x1 := cell_below b1 x1
  replace x2 := cell_below b1 x2
  replace y0 := cell_below b1 y0
  replace y1 := cell_below b1 y1
  replace y2 := cell_below b1 y2
  replace hM := cell_below b1 hM
  go_wp2_with fail
  refine (implCorrectAll_any _ _ _ _ _ _ _ _ mx _ ((ha.below t1).alloc _) (rd_two _ y x) hn hg h2 (cell_below (below_alloc _) hM)).mono ?_
  rintro e w2 ⟨⟨B2, q2, d2, rfl, o2⟩, bc⟩
  have b2 := below_trans (below_alloc _) bc
  have t2 := below_trans t1 b2
  replace o1 := o1.below b2
  clear bc b2 x0 x1 x2 y0 y1 y2 h1 h2 hM
  cases h3 : allG l [x, y]
  · have E := Lib.hid (show comG l x y = false by unfold comG; rw [h3]; rfl)
    clear ha hg o1 o2
    go_wp2
    go_ret2
    exact ⟨ret_bool_bool (comB_no E.out).symm E.out.symm, t2⟩
  cases h4 : allG l [y, x]
  · have E := Lib.hid (show comG l x y = false by unfold comG; rw [h3, h4]; rfl)
    clear ha hg o1 o2
    go_wp2
    go_ret2
    exact ⟨ret_bool_bool (comB_no E.out).symm E.out.symm, t2⟩
  have E := Lib.hid (show comG l x y = true by unfold comG; rw [h3, h4]; rfl)
  have F := Lib.hid (show comB l x y = sameB (allL l [x, y]) (allL l [y, x]) from comB_yes E.out)
  have r1 := o1.rd stV_len
  have r2 := o2.rd stV_len
  clear ha hg o1 o2
  go_wp2_with fail
  refine (Equal_any _ _ _ _ _ _ _ _ _ r1 r2).mono ?_
  rintro e w3 ⟨rfl, b3⟩
  go_wp2
  go_ret2
  exact ⟨ret_bool_bool F.out.symm E.out.symm, below_trans t2 b3⟩

set_option maxRecDepth 100000 in
set_option maxHeartbeats 2000000 in
theorem specDoCommute_any (A : Option Addr) (n c : Nat) (l : List ByteArray) (x y : CO) (w : World) (ha : Rd stV 1 w A n c l) (hn : n ≤ 1048576) (hg : ∀ s ∈ l, s.size ≤ 1048576) (hx : x.old.size ≤ 1048576 ∧ x.new.size ≤ 1048576) (hy : y.old.size ≤ 1048576 ∧ y.new.size ≤ 1048576) :
    Calls Tryz.prog 17 #[.slice A n c, .agg #[.int .i64 x.line, .string x.old, .string x.new], .agg #[.int .i64 y.line, .string y.old, .string y.new]] w fun e w' => e = .returned (.tuple #[.bool (comB l x y), .bool (comG l x y)]) ∧ Below w.heap.size w w' := by
  have h1 : ∀ s ∈ [x, y], s.old.size ≤ 1048576 ∧ s.new.size ≤ 1048576 := fun s hs => by simp at hs; rcases hs with rfl | rfl <;> assumption
  have h2 : ∀ s ∈ [y, x], s.old.size ≤ 1048576 ∧ s.new.size ≤ 1048576 := fun s hs => by simp at hs; rcases hs with rfl | rfl <;> assumption
  obtain ⟨wa, hwa⟩ : ∃ wa, wa = (w.alloc (.cells #[.int .i64 x.line, .string x.old, .string x.new] 25)) := ⟨_, rfl⟩
  obtain ⟨wb, hwb⟩ : ∃ wb, wb = wa.alloc (.cells #[.int .i64 y.line, .string y.old, .string y.new] 25) := ⟨_, rfl⟩
  have sa : wa.heap.size = w.heap.size + 1 := by rw [hwa]; simp
  have ba : Below w.heap.size w wa := by rw [hwa]; exact below_alloc _
  have bb : Below wa.heap.size wa wb := by rw [hwb]; exact below_alloc _
  have b0 := below_trans ba bb
  have hx0 : wa.heap[w.heap.size]? = some (.cells #[.int .i64 x.line, .string x.old, .string x.new] 25) := by rw [hwa]; exact heap_new rfl
  have hy0 : wb.heap[w.heap.size + 1]? = some (.cells #[.int .i64 y.line, .string y.old, .string y.new] 25) := by rw [hwb]; exact heap_new sa.symm
  have q0 := fun i => cell_of_row wa (w.heap.size) i _ _ _ hx0
  have x0 : wa.cell? ⟨w.heap.size, 0, none⟩ = some (.int .i64 x.line) := q0 0
  have x1 : wa.cell? ⟨w.heap.size, 1, none⟩ = some (.string x.old) := q0 1
  have x2 : wa.cell? ⟨w.heap.size, 2, none⟩ = some (.string x.new) := q0 2
  clear q0
  have q0 := fun i => cell_of_row wb (w.heap.size + 1) i _ _ _ hy0
  have y0 : wb.cell? ⟨w.heap.size + 1, 0, none⟩ = some (.int .i64 y.line) := q0 0
  have y1 : wb.cell? ⟨w.heap.size + 1, 1, none⟩ = some (.string y.old) := q0 1
  have y2 : wb.cell? ⟨w.heap.size + 1, 2, none⟩ = some (.string y.new) := q0 2
  clear q0
  replace x0 := cell_below bb x0
  replace x1 := cell_below bb x1
  replace x2 := cell_below bb x2
  have sb : wb.heap.size = w.heap.size + 1 + 1 := by rw [hwb]; simp [sa]
  have rt := rd_two wb x y
  rw [sb] at rt
  rw [hwa] at hwb
  clear ba bb hx0 hy0 hwa sa sb
  go_enter Tryz.func17, Tryz.ntmps17
  go_wp2_with fail
  rw [← hwb]
  clear hwb
  refine (specCorrectAll_any _ _ _ _ _ _ _ _ _ ((ha.below b0).alloc _) rt hn hg h1).mono ?_
  rintro e w1 ⟨⟨B1, q1, d1, rfl, o1⟩, bc⟩
  have b1 := below_trans (below_alloc _) bc
  have t1 := below_trans b0 b1
  clear bc
  replace x0 := cell_below b1 x0
  replace x1 := cell_below b1 x1
  replace x2 := cell_below b1 x2
  replace y0 := cell_below b1 y0
  replace y1 := cell_below b1 y1
  replace y2 := cell_below b1 y2
  go_wp2_with fail
  refine (specCorrectAll_any _ _ _ _ _ _ _ _ _ ((ha.below t1).alloc _) (rd_two _ y x) hn hg h2).mono ?_
  rintro e w2 ⟨⟨B2, q2, d2, rfl, o2⟩, bc⟩
  have b2 := below_trans (below_alloc _) bc
  have t2 := below_trans t1 b2
  replace o1 := o1.below b2
  clear bc b2 x0 x1 x2 y0 y1 y2 h1 h2
  cases h3 : allG l [x, y]
  · have E := Lib.hid (show comG l x y = false by unfold comG; rw [h3]; rfl)
    clear ha hg o1 o2
    go_wp2
    go_ret2
    exact ⟨ret_bool_bool (comB_no E.out).symm E.out.symm, t2⟩
  cases h4 : allG l [y, x]
  · have E := Lib.hid (show comG l x y = false by unfold comG; rw [h3, h4]; rfl)
    clear ha hg o1 o2
    go_wp2
    go_ret2
    exact ⟨ret_bool_bool (comB_no E.out).symm E.out.symm, t2⟩
  have E := Lib.hid (show comG l x y = true by unfold comG; rw [h3, h4]; rfl)
  have F := Lib.hid (show comB l x y = sameB (allL l [x, y]) (allL l [y, x]) from comB_yes E.out)
  have r1 := o1.rd stV_len
  have r2 := o2.rd stV_len
  obtain rfl : q1 = q2 := by rw [← o1.len, ← o2.len, allL_len_eq h3, allL_len_eq h4]
  have L1 := Lib.hid r1.len
  have L2 := Lib.hid r2.len
  have hmm := r1.le
  clear ha hg o1 o2 h3 h4
  go_wp2
  go_loopw [12] (fun i wr => ∃ k : Nat, k ≤ q1 ∧ i = .int .i64 k ∧ Below w2.heap.size w2 wr ∧ ∀ j : Nat, j < k → (allL l [x, y])[j]? = (allL l [y, x])[j]?) (fun i _ => q1 - (intOf i).toNat)
  case atStart => exact ⟨0, Nat.zero_le _, rfl, Below.refl _ _, fun j hj => absurd hj (by omega)⟩
  case round =>
    obtain ⟨k, hk, rfl, hbw, hup⟩ := hrel
    have HU := Lib.hid hup
    clear hup
    by_cases hlt : k < q1
    · obtain ⟨b3, o3, s, rfl, hs, cs⟩ := (r1.below hbw).st hlt
      obtain ⟨b4, o4, t, rfl, ht, ct⟩ := (r2.below hbw).st hlt
      have HS := Lib.hid hs
      have HT := Lib.hid ht
      clear hs ht r1 r2
      cases h5 : (s.toList == t.toList)
      · have G := Lib.hid (show sameB (allL l [x, y]) (allL l [y, x]) = false by
          unfold sameB
          rw [decide_eq_false_iff_not]
          intro e1
          have e2 := HS.out
          rw [e1, HT.out] at e2
          injection e2 with e2
          rw [e2] at h5
          simp at h5)
        go_wp2_with fail
        go_quiet (fail)
        go_wp2
        go_ret2
        exact ⟨ret_bool_bool (by rw [F.out, G.out]) E.out.symm, below_trans t2 (below_drewN hbw _)⟩
      · have HN : Hid (∀ j : Nat, j < k + 1 → (allL l [x, y])[j]? = (allL l [y, x])[j]?) := fun j hj => by
          by_cases e1 : j = k
          · subst e1; rw [HS.out, HT.out, toList_injG h5]
          · exact HU.out j (by omega)
        go_wp2_with fail
        go_quiet (fail)
        go_wp2
        go_roundw
        case rel => exact ⟨k + 1, by omega, by go_num, below_drewN hbw _, HN.out⟩
        case measure => simp [intOf]; omega
    · obtain rfl : k = q1 := by omega
      have G := Lib.hid (show sameB (allL l [x, y]) (allL l [y, x]) = true by
        unfold sameB
        rw [decide_eq_true_eq]
        apply List.ext_getElem?
        intro j
        by_cases hj : j < k
        · exact HU.out j hj
        · rw [List.getElem?_eq_none (by rw [L1.out]; omega), List.getElem?_eq_none (by rw [L2.out]; omega)])
      clear r1 r2
      go_wp2
      go_ret2
      exact ⟨ret_bool_bool (by rw [F.out, G.out]) E.out.symm, below_trans t2 hbw⟩

end Go.Proofs.YtmahfkimeclcbaaGreatDoor
