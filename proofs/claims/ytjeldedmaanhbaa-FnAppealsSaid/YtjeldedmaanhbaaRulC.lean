/-
  YtjeldedmaanhbaaRulC: rulings: RaisePoint, DecideAppeal, OutcomeOf, IsInOrder on both sides, by contracts.
-/
import Derived.Test.YtjeldedmaanhbaaRulB
import Derived.Test.YtjeldedmaanhbaaIn
namespace Go.Proofs.Ytjeldedmaanhbaa
open Go Go.RowKit Go.Sort
set_option linter.unusedVariables false

/-! ### what they give -/
def ordB (l : List PT) : Bool := decide (l.length = 0) || !opB (lastP l)
def raiG (l : List PT) (m : Int) : Bool := ptsB l && mB m && ordB l && decide (l.length < 6)
def newP (m : Int) : PT := ⟨m, 1, false, 0, 0, 0, 0⟩
def raiL (l : List PT) (m : Int) : List PT := if raiG l m then l ++ [newP m] else []
theorem raiL_yes {l : List PT} {m : Int} (h : raiG l m = true) : raiL l m = l ++ [newP m] := by simp [raiL, h]
theorem raiL_no {l : List PT} {m : Int} (h : raiG l m = false) : raiL l m = [] := by simp [raiL, h]
theorem raiL_len (l : List PT) (m : Int) : (raiL l m).length ≤ 6 := by
  unfold raiL; split
  · rename_i h
    unfold raiG at h
    simp only [Bool.and_eq_true, decide_eq_true_eq] at h
    simp; omega
  · simp
def talB (y n a : Int) : Bool := decide ((0 ≤ y ∧ y ≤ 1000) ∧ (0 ≤ n ∧ n ≤ 1000) ∧ (0 ≤ a ∧ a ≤ 1000))
def decG (l : List PT) (y n a : Int) : Bool := lastB l 3 && talB y n a
def decP (l : List PT) (y n a : Int) : PT := ⟨(lastP l).ra, 4, (lastP l).ta, (lastP l).ap, y, n, a⟩
def decL (l : List PT) (y n a : Int) : List PT := if decG l y n a then withL l (decP l y n a) else []
theorem decL_yes {l : List PT} {y n a : Int} (h : decG l y n a = true) : decL l y n a = withL l (decP l y n a) := by simp [decL, h]
theorem decL_no {l : List PT} {y n a : Int} (h : decG l y n a = false) : decL l y n a = [] := by simp [decL, h]
theorem decL_len (l : List PT) (y n a : Int) : (decL l y n a).length ≤ l.length := by unfold decL; split <;> simp [withL_len]
def revB (p : PT) : Bool := decide (p.st = 4) && decide (p.yes < p.no)
def ptAt (l : List PT) (i : Int) : PT := l.getD i.toNat ⟨0, 0, false, 0, 0, 0, 0⟩
def outG (l : List PT) (i : Int) : Bool := ptsB l && decide (0 ≤ i ∧ i < (l.length : Int)) && !opB (ptAt l i)
def outV (l : List PT) (i : Int) : Bool := outG l i && ((ptAt l i).ta != revB (ptAt l i))

theorem isOrd_any (A : Option Addr) (n c : Nat) (l : List PT) (w : World) (ha : Rd ptV 7 w A n c l) : Calls Try.prog 54 #[.slice A n c] w fun e w' => e = .returned (.bool (ordB l)) ∧ Below w.heap.size w w' := by
  have hm := ha.le
  have HL := Lib.hid ha.len
  by_cases hn : 0 < n
  · obtain ⟨b, o, p, rfl, hp, c0, c1, c2, c3, c4, c5, c6⟩ := ha.pt (i := n - 1) (by omega)
    have HP : Hid (lastP l = p) := by show _ = _; have := last_get HL.out hn; rw [hp] at this; injection this with this; exact this.symm
    have E := Lib.hid (show ordB l = !opB p by unfold ordB; rw [HL.out, HP.out, decide_eq_false (by omega)]; rfl)
    have hn0 : ((n : Int) == 0) = false := by simp; omega
    clear hp ha
    go_enter Try.func54, Try.ntmps54
    go_wp2_with fail
    refine (isOpen_any p _).mono ?_
    rintro e w1 ⟨rfl, b1⟩
    go_wp2
    go_ret
    exact ⟨ret_bool E.out.symm, b1⟩
  · have E := Lib.hid (show ordB l = true by unfold ordB; rw [HL.out, decide_eq_true (by omega)]; rfl)
    obtain rfl : n = 0 := by omega
    clear ha
    go_enter Try.func54, Try.ntmps54
    go_wp2
    go_ret
    exact ⟨ret_bool E.out.symm, Below.refl _ _⟩

theorem implOrder_any (A : Option Addr) (n c : Nat) (l : List PT) (w : World) (ha : Rd ptV 7 w A n c l) : Calls Try.prog 24 #[.slice A n c] w fun e w' => e = .returned (.tuple #[.bool (ptsB l && ordB l), .bool (ptsB l)]) ∧ Below w.heap.size w w' := by
  go_enter Try.func24, Try.ntmps24
  go_wp2_with fail
  refine (ArePoints_any _ _ _ _ _ ha).mono ?_
  rintro e w1 ⟨rfl, b1⟩
  cases h1 : ptsB l
  · go_wp2
    go_ret2
    exact ⟨ret_bool_bool (by first | rfl | (simp [h1]; done) | (simp [H1.out]; done)) (by first | rfl | (simp [h1]; done) | (simp [H1.out]; done)), b1⟩
  · go_wp2_with fail
    refine (isOrd_any _ _ _ _ _ (ha.below b1)).mono ?_
    rintro e w2 ⟨rfl, b2⟩
    go_wp2
    go_ret2
    exact ⟨ret_bool_bool (by first | rfl | (simp [h1]; done) | (simp [H1.out]; done)) (by first | rfl | (simp [h1]; done) | (simp [H1.out]; done)), below_trans b1 b2⟩
theorem specOrder_any (A : Option Addr) (n c : Nat) (l : List PT) (w : World) (ha : Rd ptV 7 w A n c l) : Calls Try.prog 29 #[.slice A n c] w fun e w' => e = .returned (.tuple #[.bool (ptsB l && ordB l), .bool (ptsB l)]) ∧ Below w.heap.size w w' := by
  have hm := ha.le
  have HL := Lib.hid ha.len
  go_enter Try.func29, Try.ntmps29
  go_wp2_with fail
  refine (l17Good_any _ _ _ _ _ ha).mono ?_
  rintro e w1 ⟨rfl, b1⟩
  cases h1 : ptsB l
  · go_wp2
    go_ret2
    exact ⟨ret_bool_bool (by first | rfl | (simp [h1]; done) | (simp [H1.out]; done)) (by first | rfl | (simp [h1]; done) | (simp [H1.out]; done)), b1⟩
  · have H1 := Lib.hid h1
    clear h1
    by_cases hn : 0 < n
    · obtain ⟨b, o, p, rfl, hp, c0, c1, c2, c3, c4, c5, c6⟩ := (ha.below b1).pt (i := n - 1) (by omega)
      have HP : Hid (lastP l = p) := by show _ = _; have := last_get HL.out hn; rw [hp] at this; injection this with this; exact this.symm
      have E := Lib.hid (show ordB l = !opB p by unfold ordB; rw [HL.out, HP.out, decide_eq_false (by omega)]; rfl)
      have hn0 : ((n : Int) == 0) = false := by simp; omega
      clear hp ha
      go_wp2_with fail
      refine (l17Open_any p _).mono ?_
      rintro e w2 ⟨rfl, b2⟩
      go_wp2
      go_ret2
      exact ⟨ret_bool_bool (by rw [E.out]; first | rfl | (simp [H1.out]; done)) (by first | rfl | (simp [H1.out]; done)), below_trans b1 b2⟩
    · have E := Lib.hid (show ordB l = true by unfold ordB; rw [HL.out, decide_eq_true (by omega)]; rfl)
      obtain rfl : n = 0 := by omega
      clear ha
      go_wp2
      go_ret2
      exact ⟨ret_bool_bool (by rw [E.out]; first | rfl | (simp [H1.out]; done)) (by first | rfl | (simp [H1.out]; done)), b1⟩

theorem isRev_any (p : PT) (w : World) : Calls Try.prog 60 #[.agg #[.int .i64 p.ra, .int .i64 p.st, .bool p.ta, .int .i64 p.ap, .int .i64 p.yes, .int .i64 p.no, .int .i64 p.ab]] w fun e w' => e = .returned (.bool (revB p)) ∧ Below w.heap.size w w' := by
  obtain ⟨ra, st, ta, ap, yes, no, ab⟩ := p
  go_enter Try.func60, Try.ntmps60
  go_wp2
  all_goals go_ret
  all_goals exact ⟨ret_bool (by rw [Bool.eq_iff_iff]; first | (simp [revB]; done) | (simp [revB]; omega) | (simp_all [revB]; done) | (simp_all [revB]; omega)), below_alloc _⟩
theorem l17Rev_any (p : PT) (w : World) : Calls Try.prog 69 #[.agg #[.int .i64 p.ra, .int .i64 p.st, .bool p.ta, .int .i64 p.ap, .int .i64 p.yes, .int .i64 p.no, .int .i64 p.ab]] w fun e w' => e = .returned (.bool (revB p)) ∧ Below w.heap.size w w' := by
  obtain ⟨ra, st, ta, ap, yes, no, ab⟩ := p
  go_enter Try.func69, Try.ntmps69
  go_wp2
  all_goals go_ret
  all_goals exact ⟨ret_bool (by rw [Bool.eq_iff_iff]; first | (simp [revB]; done) | (simp [revB]; omega) | (simp_all [revB]; done) | (simp_all [revB]; omega)), below_alloc _⟩


set_option maxRecDepth 100000 in
set_option maxHeartbeats 1000000 in
theorem implOutcome_any (A : Option Addr) (n c : Nat) (l : List PT) (i : Int) (w : World) (ha : Rd ptV 7 w A n c l) : Calls Try.prog 23 #[.slice A n c, .int .i64 i] w fun e w' => e = .returned (.tuple #[.bool (outV l i), .bool (outG l i)]) ∧ Below w.heap.size w w' := by
  have hm := ha.le
  have HL := Lib.hid ha.len
  go_enter Try.func23, Try.ntmps23
  go_wp2_with fail
  refine (ArePoints_any _ _ _ _ _ ha).mono ?_
  rintro e w1 ⟨rfl, b1⟩
  cases h1 : ptsB l
  · have E := Lib.hid (show outG l i = false by unfold outG; rw [h1]; rfl)
    have V := Lib.hid (show outV l i = false by unfold outV; rw [E.out]; rfl)
    clear h1
    go_wp2
    go_ret2
    exact ⟨ret_bool_bool V.out.symm E.out.symm, b1⟩
  have H1 := Lib.hid h1
  clear h1
  by_cases hi : 0 ≤ i ∧ i < (n : Int)
  · obtain ⟨h0, hin⟩ := hi
    obtain ⟨k, rfl⟩ := Int.eq_ofNat_of_zero_le h0
    have har := ha.below b1
    obtain ⟨b, o, p, rfl, hp, c0, c1, c2, c3, c4, c5, c6⟩ := har.pt (i := k) (by omega)
    have HP : Hid (ptAt l (k : Int) = p) := by show _ = _; simp [ptAt, List.getD, hp]
    clear hp ha
    have hi1 : (k : Int) ≤ (n : Int) - 1 := by omega
    go_wp2_with fail
    refine (inside_any _ _ _ _).mono ?_
    rintro e wx ⟨rfl, rfl⟩
    rw [inB_t h0 hi1]
    go_wp2_with fail
    refine (isOpen_any p _).mono ?_
    rintro e w2 ⟨rfl, b2⟩
    have t2 := below_trans b1 b2
    cases h2 : opB p
    · have E := Lib.hid (show outG l (k : Int) = true by unfold outG; rw [H1.out, HL.out, HP.out, h2, decide_eq_true ⟨h0, hin⟩]; rfl)
      have V := Lib.hid (show outV l (k : Int) = (p.ta != revB p) by unfold outV; rw [E.out, HP.out]; rfl)
      have har2 := har.below b2
      have hk0 : (0 : Int) ≤ (k : Int) := by omega
      obtain ⟨b', o', p', hAe, hp', d0, d1, d2, d3, d4, d5, d6⟩ := har2.pt (i := k) (by omega)
      injection hAe with hAe
      injection hAe with hb ho
      subst hb ho
      have HP' : Hid (ptAt l (k : Int) = p') := by show _ = _; simp [ptAt, List.getD, hp']
      obtain rfl : p = p' := HP.out.symm.trans HP'.out
      clear hp' h2 har har2 c0 c1 c2 c3 c4 c5 c6
      have k0 := cell_regrown d0
      have k1 := cell_regrown d1
      have k2 := cell_regrown d2
      have k3 := cell_regrown d3
      have k4 := cell_regrown d4
      have k5 := cell_regrown d5
      have k6 := cell_regrown d6
      go_wp2_with fail
      refine wp_region_quiet_below (by kernel_rfl) (by kernel_rfl) ?_
      repeat (go_big_quiet_step ((go_at_call 60; exact Calls.regrown_of (isRev_any p _))))
      refine wpQuiet_nil ?_
      intro _ hw'
      obtain ⟨⟨dq, osq⟩, hw''⟩ := hw'
      subst hw''
      go_wp2
      go_ret2
      exact ⟨ret_bool_bool (by rw [V.out]; first | rfl | simp) E.out.symm, below_grow t2 _ _⟩
    · have E := Lib.hid (show outG l (k : Int) = false by unfold outG; rw [HP.out, h2]; simp)
      have V := Lib.hid (show outV l (k : Int) = false by unfold outV; rw [E.out]; rfl)
      clear h2 har
      go_wp2
      go_ret2
      exact ⟨ret_bool_bool V.out.symm E.out.symm, t2⟩
  · have E := Lib.hid (show outG l i = false by unfold outG; rw [HL.out, decide_eq_false hi]; simp)
    have V := Lib.hid (show outV l i = false by unfold outV; rw [E.out]; rfl)
    clear ha
    by_cases h0 : 0 ≤ i
    · have hi1 : ¬ i ≤ (n : Int) - 1 := by omega
      clear hi
      go_wp2_with fail
      refine (inside_any _ _ _ _).mono ?_
      rintro e wx ⟨rfl, rfl⟩
      rw [inB_r (by omega)]
      go_wp2
      go_ret2
      exact ⟨ret_bool_bool V.out.symm E.out.symm, b1⟩
    · clear hi
      go_wp2_with fail
      refine (inside_any _ _ _ _).mono ?_
      rintro e wx ⟨rfl, rfl⟩
      rw [inB_l (by omega)]
      go_wp2
      go_ret2
      exact ⟨ret_bool_bool V.out.symm E.out.symm, b1⟩

set_option maxRecDepth 100000 in
set_option maxHeartbeats 1000000 in
theorem specOutcome_any (A : Option Addr) (n c : Nat) (l : List PT) (i : Int) (w : World) (ha : Rd ptV 7 w A n c l) : Calls Try.prog 41 #[.slice A n c, .int .i64 i] w fun e w' => e = .returned (.tuple #[.bool (outV l i), .bool (outG l i)]) ∧ Below w.heap.size w w' := by
  have hm := ha.le
  have HL := Lib.hid ha.len
  go_enter Try.func41, Try.ntmps41
  go_wp2_with fail
  refine (l17Good_any _ _ _ _ _ ha).mono ?_
  rintro e w1 ⟨rfl, b1⟩
  cases h1 : ptsB l
  · have E := Lib.hid (show outG l i = false by unfold outG; rw [h1]; rfl)
    have V := Lib.hid (show outV l i = false by unfold outV; rw [E.out]; rfl)
    clear h1
    go_wp2
    go_ret2
    exact ⟨ret_bool_bool V.out.symm E.out.symm, b1⟩
  have H1 := Lib.hid h1
  clear h1
  by_cases hi : 0 ≤ i ∧ i < (n : Int)
  · obtain ⟨h0, hin⟩ := hi
    obtain ⟨k, rfl⟩ := Int.eq_ofNat_of_zero_le h0
    have har := ha.below b1
    obtain ⟨b, o, p, rfl, hp, c0, c1, c2, c3, c4, c5, c6⟩ := har.pt (i := k) (by omega)
    have HP : Hid (ptAt l (k : Int) = p) := by show _ = _; simp [ptAt, List.getD, hp]
    clear hp ha
    have hi1 : (k : Int) ≤ (n : Int) - 1 := by omega
    go_wp2_with fail
    refine (l1In_any _ _ _ _).mono ?_
    rintro e wx ⟨rfl, rfl⟩
    rw [inB_t h0 hi1]
    go_wp2_with fail
    refine (l17Open_any p _).mono ?_
    rintro e w2 ⟨rfl, b2⟩
    have t2 := below_trans b1 b2
    cases h2 : opB p
    · have E := Lib.hid (show outG l (k : Int) = true by unfold outG; rw [H1.out, HL.out, HP.out, h2, decide_eq_true ⟨h0, hin⟩]; rfl)
      have V := Lib.hid (show outV l (k : Int) = (p.ta != revB p) by unfold outV; rw [E.out, HP.out]; rfl)
      have har2 := har.below b2
      have hk0 : (0 : Int) ≤ (k : Int) := by omega
      obtain ⟨b', o', p', hAe, hp', d0, d1, d2, d3, d4, d5, d6⟩ := har2.pt (i := k) (by omega)
      injection hAe with hAe
      injection hAe with hb ho
      subst hb ho
      have HP' : Hid (ptAt l (k : Int) = p') := by show _ = _; simp [ptAt, List.getD, hp']
      obtain rfl : p = p' := HP.out.symm.trans HP'.out
      clear hp' h2 har har2 c0 c1 c2 c3 c4 c5 c6
      have k0 := cell_regrown d0
      have k1 := cell_regrown d1
      have k2 := cell_regrown d2
      have k3 := cell_regrown d3
      have k4 := cell_regrown d4
      have k5 := cell_regrown d5
      have k6 := cell_regrown d6
      go_wp2_with fail
      refine wp_region_quiet_below (by kernel_rfl) (by kernel_rfl) ?_
      repeat (go_big_quiet_step ((go_at_call 69; exact Calls.regrown_of (l17Rev_any p _))))
      refine wpQuiet_nil ?_
      intro _ hw'
      obtain ⟨⟨dq, osq⟩, hw''⟩ := hw'
      subst hw''
      go_wp2
      go_ret2
      exact ⟨ret_bool_bool (by rw [V.out]; first | rfl | simp) E.out.symm, below_grow t2 _ _⟩
    · have E := Lib.hid (show outG l (k : Int) = false by unfold outG; rw [HP.out, h2]; simp)
      have V := Lib.hid (show outV l (k : Int) = false by unfold outV; rw [E.out]; rfl)
      clear h2 har
      go_wp2
      go_ret2
      exact ⟨ret_bool_bool V.out.symm E.out.symm, t2⟩
  · have E := Lib.hid (show outG l i = false by unfold outG; rw [HL.out, decide_eq_false hi]; simp)
    have V := Lib.hid (show outV l i = false by unfold outV; rw [E.out]; rfl)
    clear ha
    by_cases h0 : 0 ≤ i
    · have hi1 : ¬ i ≤ (n : Int) - 1 := by omega
      clear hi
      go_wp2_with fail
      refine (l1In_any _ _ _ _).mono ?_
      rintro e wx ⟨rfl, rfl⟩
      rw [inB_r (by omega)]
      go_wp2
      go_ret2
      exact ⟨ret_bool_bool V.out.symm E.out.symm, b1⟩
    · clear hi
      go_wp2_with fail
      refine (l1In_any _ _ _ _).mono ?_
      rintro e wx ⟨rfl, rfl⟩
      rw [inB_l (by omega)]
      go_wp2
      go_ret2
      exact ⟨ret_bool_bool V.out.symm E.out.symm, b1⟩

end Go.Proofs.Ytjeldedmaanhbaa
