/-
  YtjeldedmaanhbaaRulA: rulings: which points and which lists of points are valid, by contracts.
-/
import Derived.Test.YtjeldedmaanhbaaHelp
import Derived.BigQuiet
namespace Go.Proofs.Ytjeldedmaanhbaa
open Go Go.RowKit Go.Sort
set_option linter.unusedVariables false

/-- A valid point. -/
def PtOK (p : PT) : Prop := (1 ≤ p.ra ∧ p.ra ≤ 99) ∧ (p.st = 4 ∨ (p.yes = 0 ∧ p.no = 0 ∧ p.ab = 0)) ∧
  ((p.st = 1 ∧ p.ta = false ∧ p.ap = 0) ∨ (p.st = 2 ∧ p.ap = 0) ∨
    ((p.st = 3 ∨ p.st = 4) ∧ (1 ≤ p.ap ∧ p.ap ≤ 99) ∧ ¬(p.ta = true ∧ p.ap = p.ra) ∧ (0 ≤ p.yes ∧ p.yes ≤ 1000) ∧ (0 ≤ p.no ∧ p.no ≤ 1000) ∧ (0 ≤ p.ab ∧ p.ab ≤ 1000)))
instance (p : PT) : Decidable (PtOK p) := by unfold PtOK; infer_instance
def ptOK (p : PT) : Bool := decide (PtOK p)
/-- Something is to be done with it. -/
def opB (p : PT) : Bool := decide (p.st = 1 ∨ p.st = 3)
/-- A point at place i of n. -/
def okAt (n i : Nat) (p : PT) : Bool := ptOK p && !(opB p && decide (i + 1 < n))
/-- A valid list. -/
def ptsB (l : List PT) : Bool := decide (l.length ≤ 6) && (List.range l.length).all (fun i => (l[i]?.map (okAt l.length i)).getD true)
theorem pts_fails {l : List PT} {k : Nat} {p : PT} (hx : l[k]? = some p) (h : okAt l.length k p = false) : ptsB l = false := by
  have hk := (List.getElem?_eq_some_iff.1 hx).1
  unfold ptsB
  rw [Bool.and_eq_false_iff]
  refine .inr (List.all_eq_false.2 ⟨k, List.mem_range.2 hk, ?_⟩)
  rw [hx]
  simp [h]
theorem pts_upto {l : List PT} (h : ∀ i p, l[i]? = some p → okAt l.length i p = true) : ptsB l = decide (l.length ≤ 6) := by
  unfold ptsB
  rw [List.all_eq_true.2, Bool.and_true]
  intro i hi
  have := List.mem_range.1 hi
  rw [List.getElem?_eq_getElem this]
  exact h i _ (List.getElem?_eq_getElem this)
theorem pts_at {l : List PT} (h : ptsB l = true) {i : Nat} {p : PT} (hx : l[i]? = some p) : okAt l.length i p = true := by
  unfold ptsB at h
  rw [Bool.and_eq_true] at h
  have := List.all_eq_true.1 h.2 i (List.mem_range.2 (List.getElem?_eq_some_iff.1 hx).1)
  rw [hx] at this
  exact this
theorem pts_len {l : List PT} (h : ptsB l = true) : l.length ≤ 6 := by
  unfold ptsB at h
  rw [Bool.and_eq_true] at h
  exact of_decide_eq_true h.1

set_option maxRecDepth 100000 in
set_option maxHeartbeats 1000000 in
theorem isPoint_any (p : PT) (w : World) : Calls Try.prog 57 #[.agg #[.int .i64 p.ra, .int .i64 p.st, .bool p.ta, .int .i64 p.ap, .int .i64 p.yes, .int .i64 p.no, .int .i64 p.ab]] w fun e w' => e = .returned (.bool (ptOK p)) ∧ Below w.heap.size w w' := by
  obtain ⟨ra, st, ta, ap, yes, no, ab⟩ := p
  go_enter Try.func57, Try.ntmps57
  go_wp2
  all_goals go_ret
  all_goals exact ⟨ret_bool (by rw [Bool.eq_iff_iff]; first | (simp [ptOK, PtOK]; done) | (simp [ptOK, PtOK]; omega) | (simp_all [ptOK, PtOK]; done) | (simp_all [ptOK, PtOK]; omega)), by first | exact below_alloc _ | exact below_alloc2 _ _ | exact below_alloc3 _ _ _⟩

set_option maxRecDepth 100000 in
set_option maxHeartbeats 1000000 in
theorem l17Single_any (p : PT) (w : World) : Calls Try.prog 74 #[.agg #[.int .i64 p.ra, .int .i64 p.st, .bool p.ta, .int .i64 p.ap, .int .i64 p.yes, .int .i64 p.no, .int .i64 p.ab]] w fun e w' => e = .returned (.bool (ptOK p)) ∧ Below w.heap.size w w' := by
  obtain ⟨ra, st, ta, ap, yes, no, ab⟩ := p
  go_enter Try.func74, Try.ntmps74
  go_wp2
  all_goals go_ret
  all_goals exact ⟨ret_bool (by rw [Bool.eq_iff_iff]; first | (simp [ptOK, PtOK]; done) | (simp [ptOK, PtOK]; omega) | (simp_all [ptOK, PtOK]; done) | (simp_all [ptOK, PtOK]; omega)), by first | exact below_alloc _ | exact below_alloc2 _ _ | exact below_alloc3 _ _ _⟩

set_option maxRecDepth 100000 in
set_option maxHeartbeats 1000000 in
theorem isOpen_any (p : PT) (w : World) : Calls Try.prog 58 #[.agg #[.int .i64 p.ra, .int .i64 p.st, .bool p.ta, .int .i64 p.ap, .int .i64 p.yes, .int .i64 p.no, .int .i64 p.ab]] w fun e w' => e = .returned (.bool (opB p)) ∧ Below w.heap.size w w' := by
  obtain ⟨ra, st, ta, ap, yes, no, ab⟩ := p
  go_enter Try.func58, Try.ntmps58
  go_wp2
  all_goals go_ret
  all_goals exact ⟨ret_bool (by rw [Bool.eq_iff_iff]; first | (simp [opB]; done) | (simp [opB]; omega) | (simp_all [opB]; done) | (simp_all [opB]; omega)), by first | exact below_alloc _ | exact below_alloc2 _ _ | exact below_alloc3 _ _ _⟩

set_option maxRecDepth 100000 in
set_option maxHeartbeats 1000000 in
theorem l17Open_any (p : PT) (w : World) : Calls Try.prog 56 #[.agg #[.int .i64 p.ra, .int .i64 p.st, .bool p.ta, .int .i64 p.ap, .int .i64 p.yes, .int .i64 p.no, .int .i64 p.ab]] w fun e w' => e = .returned (.bool (opB p)) ∧ Below w.heap.size w w' := by
  obtain ⟨ra, st, ta, ap, yes, no, ab⟩ := p
  go_enter Try.func56, Try.ntmps56
  go_wp2
  all_goals go_ret
  all_goals exact ⟨ret_bool (by rw [Bool.eq_iff_iff]; first | (simp [opB]; done) | (simp [opB]; omega) | (simp_all [opB]; done) | (simp_all [opB]; omega)), by first | exact below_alloc _ | exact below_alloc2 _ _ | exact below_alloc3 _ _ _⟩

set_option maxRecDepth 100000 in
set_option maxHeartbeats 1000000 in
theorem ArePoints_any (A : Option Addr) (n c : Nat) (l : List PT) (w : World) (ha : Rd ptV 7 w A n c l) : Calls Try.prog 21 #[.slice A n c] w fun e w' => e = .returned (.bool (ptsB l)) ∧ Below w.heap.size w w' := by
  have hm := ha.le
  have HL := Lib.hid ha.len
  go_enter Try.func21, Try.ntmps21
  go_wp2
  go_loopw [7] (fun i wr => ∃ k : Nat, k ≤ n ∧ i = .int .i64 k ∧ (∀ j p, j < k → l[j]? = some p → okAt l.length j p = true) ∧ Below w.heap.size w wr) (fun i _ => n - (intOf i).toNat)
  case atStart => exact ⟨0, Nat.zero_le _, rfl, fun j p hj => absurd hj (by omega), Below.refl _ _⟩
  case round =>
    obtain ⟨k, hk, rfl, hup, hbw⟩ := hrel
    have HU := Lib.hid hup
    clear hup
    by_cases hlt : k < n
    · obtain ⟨b1, o1, p, rfl, hs, c0, c1, c2, c3, c4, c5, c6⟩ := (ha.below hbw).pt (i := k) (by omega)
      have HS := Lib.hid hs
      clear hs ha
      go_wp2_with fail
      refine (isPoint_any p _).mono ?_
      rintro e w2 ⟨rfl, b2⟩
      have b2' := below_trans (below_alloc _) b2
      have d := fun j => cell_of_row _ _ j _ _ _ (heap_new (w := wr) (o := .cells #[.int .i64 p.ra, .int .i64 p.st, .bool p.ta, .int .i64 p.ap, .int .i64 p.yes, .int .i64 p.no, .int .i64 p.ab] 53) rfl)
      have d0 : (wr.alloc (.cells #[.int .i64 p.ra, .int .i64 p.st, .bool p.ta, .int .i64 p.ap, .int .i64 p.yes, .int .i64 p.no, .int .i64 p.ab] 53)).cell? ⟨wr.heap.size, 0, none⟩ = some (.int .i64 p.ra) := d 0
      have d1 : (wr.alloc (.cells #[.int .i64 p.ra, .int .i64 p.st, .bool p.ta, .int .i64 p.ap, .int .i64 p.yes, .int .i64 p.no, .int .i64 p.ab] 53)).cell? ⟨wr.heap.size, 1, none⟩ = some (.int .i64 p.st) := d 1
      have d2 : (wr.alloc (.cells #[.int .i64 p.ra, .int .i64 p.st, .bool p.ta, .int .i64 p.ap, .int .i64 p.yes, .int .i64 p.no, .int .i64 p.ab] 53)).cell? ⟨wr.heap.size, 2, none⟩ = some (.bool p.ta) := d 2
      have d3 : (wr.alloc (.cells #[.int .i64 p.ra, .int .i64 p.st, .bool p.ta, .int .i64 p.ap, .int .i64 p.yes, .int .i64 p.no, .int .i64 p.ab] 53)).cell? ⟨wr.heap.size, 3, none⟩ = some (.int .i64 p.ap) := d 3
      have d4 : (wr.alloc (.cells #[.int .i64 p.ra, .int .i64 p.st, .bool p.ta, .int .i64 p.ap, .int .i64 p.yes, .int .i64 p.no, .int .i64 p.ab] 53)).cell? ⟨wr.heap.size, 4, none⟩ = some (.int .i64 p.yes) := d 4
      have d5 : (wr.alloc (.cells #[.int .i64 p.ra, .int .i64 p.st, .bool p.ta, .int .i64 p.ap, .int .i64 p.yes, .int .i64 p.no, .int .i64 p.ab] 53)).cell? ⟨wr.heap.size, 5, none⟩ = some (.int .i64 p.no) := d 5
      have d6 : (wr.alloc (.cells #[.int .i64 p.ra, .int .i64 p.st, .bool p.ta, .int .i64 p.ap, .int .i64 p.yes, .int .i64 p.no, .int .i64 p.ab] 53)).cell? ⟨wr.heap.size, 6, none⟩ = some (.int .i64 p.ab) := d 6
      clear d
      replace d0 := cell_below b2 d0
      replace d1 := cell_below b2 d1
      replace d2 := cell_below b2 d2
      replace d3 := cell_below b2 d3
      replace d4 := cell_below b2 d4
      replace d5 := cell_below b2 d5
      replace d6 := cell_below b2 d6
      have t2 := below_trans hbw b2'
      clear b2 b2'
      cases h1 : ptOK p
      · have E := Lib.hid (pts_fails HS.out (by unfold okAt; rw [h1]; rfl))
        go_wp2
        go_ret
        exact ⟨ret_bool E.out.symm, t2⟩
      have H1 := Lib.hid h1
      go_wp2_with fail
      refine (isOpen_any p _).mono ?_
      rintro e w3 ⟨rfl, b3⟩
      have t3 := below_trans t2 b3
      cases h2 : opB p
      · have H2 := Lib.hid h2
        have HN : Hid (∀ j p, j < k + 1 → l[j]? = some p → okAt l.length j p = true) := fun j q hj hx => by
          by_cases e : j = k
          · subst e; rw [HS.out] at hx; injection hx with hx; rw [← hx]; unfold okAt; rw [H1.out, HL.out]; simp; rw [h2]; simp
          · exact HU.out j q (by omega) hx
        go_wp2
        go_roundw
        case rel => exact ⟨k + 1, by omega, by go_num, HN.out, t3⟩
        case measure => simp [intOf]; omega
      · by_cases h3 : (k : Int) < (n : Int) - 1
        · have E := Lib.hid (pts_fails HS.out (by unfold okAt; rw [h1, h2, HL.out]; simp; omega))
          go_wp2
          go_ret
          exact ⟨ret_bool E.out.symm, t3⟩
        · have H2 := Lib.hid h2
          have HN : Hid (∀ j p, j < k + 1 → l[j]? = some p → okAt l.length j p = true) := fun j q hj hx => by
            by_cases e : j = k
            · subst e; rw [HS.out] at hx; injection hx with hx; rw [← hx]; unfold okAt; rw [H1.out, HL.out]; simp; omega
            · exact HU.out j q (by omega) hx
          go_wp2
          go_roundw
          case rel => exact ⟨k + 1, by omega, by go_num, HN.out, t3⟩
          case measure => simp [intOf]; omega
    · obtain rfl : k = n := by omega
      have E := Lib.hid (show ptsB l = decide ((k : Int) ≤ 6) by rw [pts_upto (fun i p hx => HU.out i p (by rw [← HL.out]; exact (List.getElem?_eq_some_iff.1 hx).1) hx), HL.out]; simp; omega)
      clear ha
      go_wp2
      go_ret
      exact ⟨ret_bool E.out.symm, hbw⟩

set_option maxRecDepth 100000 in
set_option maxHeartbeats 1000000 in
theorem l17Good_any (A : Option Addr) (n c : Nat) (l : List PT) (w : World) (ha : Rd ptV 7 w A n c l) : Calls Try.prog 55 #[.slice A n c] w fun e w' => e = .returned (.bool (ptsB l)) ∧ Below w.heap.size w w' := by
  have hm := ha.le
  have HL := Lib.hid ha.len
  go_enter Try.func55, Try.ntmps55
  go_wp2
  go_loopw [3] (fun i wr => ∃ k : Nat, k ≤ n ∧ i = .int .i64 k ∧ (∀ j p, j < k → l[j]? = some p → okAt l.length j p = true) ∧ Below w.heap.size w wr) (fun i _ => n - (intOf i).toNat)
  case atStart => exact ⟨0, Nat.zero_le _, rfl, fun j p hj => absurd hj (by omega), Below.refl _ _⟩
  case round =>
    obtain ⟨k, hk, rfl, hup, hbw⟩ := hrel
    have HU := Lib.hid hup
    clear hup
    by_cases hlt : k < n ∧ k ≤ 6
    · obtain ⟨b1, o1, p, rfl, hs, c0, c1, c2, c3, c4, c5, c6⟩ := (ha.below hbw).pt (i := k) (by omega)
      have HS := Lib.hid hs
      clear hs ha
      go_wp2_with fail
      refine (l17Single_any p _).mono ?_
      rintro e w2 ⟨rfl, b2⟩
      have b2' := b2
      replace c0 := cell_below b2 c0
      replace c1 := cell_below b2 c1
      replace c2 := cell_below b2 c2
      replace c3 := cell_below b2 c3
      replace c4 := cell_below b2 c4
      replace c5 := cell_below b2 c5
      replace c6 := cell_below b2 c6
      have t2 := below_trans hbw b2'
      clear b2 b2'
      cases h1 : ptOK p
      · have E := Lib.hid (pts_fails HS.out (by unfold okAt; rw [h1]; rfl))
        go_wp2
        go_ret
        exact ⟨ret_bool E.out.symm, t2⟩
      have H1 := Lib.hid h1
      by_cases h3 : (k : Int) + 1 < (n : Int)
      · go_wp2_with fail
        refine (l17Open_any p _).mono ?_
        rintro e w3 ⟨rfl, b3⟩
        have t3 := below_trans t2 b3
        cases h2 : opB p
        · have H2 := Lib.hid h2
          have HN : Hid (∀ j p, j < k + 1 → l[j]? = some p → okAt l.length j p = true) := fun j q hj hx => by
            by_cases e : j = k
            · subst e; rw [HS.out] at hx; injection hx with hx; rw [← hx]; unfold okAt; rw [H1.out, HL.out]; simp; rw [h2]; simp
            · exact HU.out j q (by omega) hx
          go_wp2
          go_roundw
          case rel => exact ⟨k + 1, by omega, by go_num, HN.out, t3⟩
          case measure => simp [intOf]; omega
        · have E := Lib.hid (pts_fails HS.out (by unfold okAt; rw [h1, h2, HL.out]; simp; omega))
          go_wp2
          go_ret
          exact ⟨ret_bool E.out.symm, t3⟩
      · skip
        have HN : Hid (∀ j p, j < k + 1 → l[j]? = some p → okAt l.length j p = true) := fun j q hj hx => by
          by_cases e : j = k
          · subst e; rw [HS.out] at hx; injection hx with hx; rw [← hx]; unfold okAt; rw [H1.out, HL.out]; simp; omega
          · exact HU.out j q (by omega) hx
        go_wp2
        go_roundw
        case rel => exact ⟨k + 1, by omega, by go_num, HN.out, t2⟩
        case measure => simp [intOf]; omega
    · by_cases h6 : k < n
      · have E := Lib.hid (show ptsB l = false by unfold ptsB; rw [HL.out, decide_eq_false (by omega)]; rfl)
        have h7 : ¬((k : Int) ≤ 6) := by omega
        have h8 : ¬((n : Int) ≤ 6) := by omega
        clear ha
        go_wp2
        go_ret
        exact ⟨ret_bool (by rw [E.out]), hbw⟩
      · obtain rfl : k = n := by omega
        have E := Lib.hid (show ptsB l = decide ((k : Int) ≤ 6) by rw [pts_upto (fun i p hx => HU.out i p (by rw [← HL.out]; exact (List.getElem?_eq_some_iff.1 hx).1) hx), HL.out]; simp; omega)
        clear ha
        go_wp2
        go_ret
        exact ⟨ret_bool E.out.symm, hbw⟩

end Go.Proofs.Ytjeldedmaanhbaa
