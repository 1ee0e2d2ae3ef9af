/-
  YtjeldedmaanhbaaRulD: rulings: RaisePoint, DecideAppeal, both sides, by contracts. (Printed by wip/gen/ruld.py.)
-/
import Derived.Test.YtjeldedmaanhbaaRulC
namespace Go.Proofs.Ytjeldedmaanhbaa
open Go Go.RowKit Go.Sort
set_option linter.unusedVariables false


set_option maxRecDepth 100000 in
set_option maxHeartbeats 2000000 in
theorem implRaise_any (A : Option Addr) (n c : Nat) (l : List PT) (m : Int) (w : World) (ha : Rd ptV 7 w A n c l) :
    Calls Try.prog 18 #[.slice A n c, .int .i64 m] w fun e w' => (∃ B q d, e = .returned (.tuple #[.slice B q d, .bool (raiG l m)]) ∧ Own ptV 7 w' w.heap.size 53 B q d (raiL l m)) ∧ Below w.heap.size w w' := by
  obtain ⟨i0, hi, hz0, hz1, hz2⟩ := info_parts Try.infopt
  have HL := Lib.hid ha.len
  have hmm := ha.le
  go_enter Try.func18, Try.ntmps18
  go_wp2_with fail
  refine (ArePoints_any _ _ _ _ _ ha).mono ?_
  rintro e w1 ⟨rfl, b1⟩
  cases h1 : ptsB l
  · have E := Lib.hid (show raiG l m = false by unfold raiG; rw [h1]; rfl)
    clear ha h1
    go_wp2
    go_ret2
    exact ⟨⟨_, _, _, ret_sl_bool E.out.symm, by rw [raiL_no E.out]; exact Own.nil _ _ _⟩, b1⟩
  have hn6 : n ≤ 6 := by rw [← ha.len]; exact pts_len h1
  have H1 := Lib.hid h1
  clear h1
  go_wp2_with fail
  refine (isMember_any _ _).mono ?_
  rintro e wx ⟨rfl, rfl⟩
  cases h2 : mB m
  · have E := Lib.hid (show raiG l m = false by unfold raiG; rw [h2]; simp)
    clear ha h2
    go_wp2
    go_ret2
    exact ⟨⟨_, _, _, ret_sl_bool E.out.symm, by rw [raiL_no E.out]; exact Own.nil _ _ _⟩, b1⟩
  have H2 := Lib.hid h2
  clear h2
  go_wp2_with fail
  refine (isOrd_any _ _ _ _ _ (ha.below b1)).mono ?_
  rintro e w2 ⟨rfl, b2⟩
  have t2 := below_trans b1 b2
  cases h3 : ordB l
  · have E := Lib.hid (show raiG l m = false by unfold raiG; rw [h3]; simp)
    clear ha h3
    go_wp2
    go_ret2
    exact ⟨⟨_, _, _, ret_sl_bool E.out.symm, by rw [raiL_no E.out]; exact Own.nil _ _ _⟩, t2⟩
  have H3 := Lib.hid h3
  clear h3
  by_cases h6 : n = 6
  · have E := Lib.hid (show raiG l m = false by unfold raiG; rw [HL.out, decide_eq_false (by omega)]; simp)
    have hn6' : ((n : Int) == 6) = true := by simp; omega
    clear ha h6
    go_wp2
    go_ret2
    exact ⟨⟨_, _, _, ret_sl_bool E.out.symm, by rw [raiL_no E.out]; exact Own.nil _ _ _⟩, t2⟩
  have E := Lib.hid (show raiG l m = true by unfold raiG; rw [H1.out, H2.out, H3.out, HL.out, decide_eq_true (by omega)]; rfl)
  have hn6' : ((n : Int) == 6) = false := by simp; omega

  have har := ha.below t2
  clear ha
  go_wp2_with (first
    | (at_builtin
       refine wpList_pushAll rfl (.tmp 24) (.tmp 25) _ rfl w2.heap.size 53 i0 _ 7 56 Try.underlying24 hi hz0 hz1 hz2 rfl (by omega) ptV ptV_len one_pt _ 0 0 [] rfl (Own.empty ptV 7 _ 53) _ n c l rfl (har.alloc _) (by simp only [maxLen]; omega) (by omega) (by first | simp; done | (simp; omega)) ?_
       intro B1 d1 w4 o1 g1
       simp only [Nat.zero_add, List.nil_append] at o1
       have b4 : Below w2.heap.size w2 w4 := (below_alloc _).grown g1 (by simp) (fun k hk => by simp [blockOf] at hk; omega)
       have O1 := Lib.hid o1
       clear o1)
    | (at_builtin
       refine wpList_push rfl (.tmp 26) (.tmp 29) _ rfl w2.heap.size 53 i0 _ 7 56 Try.underlying24 hi hz0 hz1 hz2 rfl (by omega) ptV ptV_len one_pt B1 n d1 l rfl O1.out (newP m) _ rfl _ rfl (by first | rfl | simp) (by simp only [maxLen]; omega) (by omega) b4.size ?_
       intro B2 d2 w5 o2 g2
       have b5 := below_push b4 O1.out g2 (Nat.le_refl _)
       have O2 := Lib.hid o2
       clear o2))
  go_ret2
  exact ⟨⟨_, _, _, ret_sl_bool E.out.symm, by rw [raiL_yes E.out]; exact O2.out.base_le (t2).size⟩, below_trans t2 b5⟩


set_option maxRecDepth 100000 in
set_option maxHeartbeats 2000000 in
theorem specRaise_any (A : Option Addr) (n c : Nat) (l : List PT) (m : Int) (w : World) (ha : Rd ptV 7 w A n c l) :
    Calls Try.prog 19 #[.slice A n c, .int .i64 m] w fun e w' => (∃ B q d, e = .returned (.tuple #[.slice B q d, .bool (raiG l m)]) ∧ Own ptV 7 w' w.heap.size 53 B q d (raiL l m)) ∧ Below w.heap.size w w' := by
  obtain ⟨i0, hi, hz0, hz1, hz2⟩ := info_parts Try.infopt
  have HL := Lib.hid ha.len
  have hmm := ha.le
  go_enter Try.func19, Try.ntmps19
  go_wp2_with fail
  refine (l17Good_any _ _ _ _ _ ha).mono ?_
  rintro e w1 ⟨rfl, b1⟩
  cases h1 : ptsB l
  · have E := Lib.hid (show raiG l m = false by unfold raiG; rw [h1]; rfl)
    clear ha h1
    go_wp2
    go_ret2
    exact ⟨⟨_, _, _, ret_sl_bool E.out.symm, by rw [raiL_no E.out]; exact (Own.empty ptV 7 _ 53).base_le (b1).size⟩, below_trans b1 (below_alloc _)⟩
  have hn6 : n ≤ 6 := by rw [← ha.len]; exact pts_len h1
  have H1 := Lib.hid h1
  clear h1
  go_wp2_with fail
  refine (l7Member_any _ _).mono ?_
  rintro e wx ⟨rfl, rfl⟩
  cases h2 : mB m
  · have E := Lib.hid (show raiG l m = false by unfold raiG; rw [h2]; simp)
    clear ha h2
    go_wp2
    go_ret2
    exact ⟨⟨_, _, _, ret_sl_bool E.out.symm, by rw [raiL_no E.out]; exact (Own.empty ptV 7 _ 53).base_le (b1).size⟩, below_trans b1 (below_alloc _)⟩
  have H2 := Lib.hid h2
  clear h2
  by_cases h6 : n = 6
  · have E := Lib.hid (show raiG l m = false by unfold raiG; rw [HL.out, decide_eq_false (by omega)]; simp)
    have hn6' : ((n : Int) == 6) = true := by simp; omega
    clear ha h6
    go_wp2
    go_ret2
    exact ⟨⟨_, _, _, ret_sl_bool E.out.symm, by rw [raiL_no E.out]; exact (Own.empty ptV 7 _ 53).base_le (b1).size⟩, below_trans b1 (below_alloc _)⟩
  have hn6' : ((n : Int) == 6) = false := by simp; omega
  by_cases hn : 0 < n
  · obtain ⟨b, o, p, hAe, hp, c0, c1, c2, c3, c4, c5, c6⟩ := (ha.below b1).pt (i := n - 1) (by omega)
    have HP : Hid (lastP l = p) := by show _ = _; have := last_get HL.out hn; rw [hp] at this; injection this with this; exact this.symm
    have EO := Lib.hid (show ordB l = !opB p by unfold ordB; rw [HL.out, HP.out, decide_eq_false (by omega)]; rfl)
    have hn0 : (0 : Int) < (n : Int) := by omega
    have hn1 : (n : Int) - 1 < (n : Int) := by omega
    have HAE := Lib.hid hAe
    subst hAe
    clear hp
    go_wp2_with fail
    refine (l17Open_any p _).mono ?_
    rintro e w2 ⟨rfl, b2⟩
    have t2 := below_trans b1 b2
    cases h3 : opB p
    · have E := Lib.hid (show raiG l m = true by unfold raiG; rw [H1.out, H2.out, EO.out, h3, HL.out, decide_eq_true (by omega)]; rfl)
      clear h3 c0 c1 c2 c3 c4 c5 c6
      have har := ha.below t2
      clear ha
      go_wp2_with (first
        | (at_builtin
           refine wpList_pushAll rfl (.tmp 34) (.tmp 35) _ rfl w2.heap.size 53 i0 _ 7 56 Try.underlying24 hi hz0 hz1 hz2 rfl (by omega) ptV ptV_len one_pt _ 0 0 [] rfl (Own.empty ptV 7 _ 53) _ n c l rfl (har.alloc _) (by simp only [maxLen]; omega) (by omega) (by first | simp; done | (simp; omega)) ?_
           intro B1 d1 w4 o1 g1
           simp only [Nat.zero_add, List.nil_append] at o1
           have b4 : Below w2.heap.size w2 w4 := (below_alloc _).grown g1 (by simp) (fun k hk => by simp [blockOf] at hk; omega)
           have O1 := Lib.hid o1
           clear o1)
        | (at_builtin
           refine wpList_push rfl (.tmp 36) (.tmp 39) _ rfl w2.heap.size 53 i0 _ 7 56 Try.underlying24 hi hz0 hz1 hz2 rfl (by omega) ptV ptV_len one_pt B1 n d1 l rfl O1.out (newP m) _ rfl _ rfl (by first | rfl | simp) (by simp only [maxLen]; omega) (by omega) b4.size ?_
           intro B2 d2 w5 o2 g2
           have b5 := below_push b4 O1.out g2 (Nat.le_refl _)
           have O2 := Lib.hid o2
           clear o2))
      go_ret2
      exact ⟨⟨_, _, _, ret_sl_bool E.out.symm, by rw [raiL_yes E.out]; exact O2.out.base_le (t2).size⟩, below_trans t2 b5⟩
    · have E := Lib.hid (show raiG l m = false by unfold raiG; rw [EO.out, h3]; simp)
      clear h3 ha
      go_wp2
      go_ret2
      exact ⟨⟨_, _, _, ret_sl_bool E.out.symm, by rw [raiL_no E.out]; exact (Own.empty ptV 7 _ 53).base_le (t2).size⟩, below_trans t2 (below_alloc _)⟩
  · have E := Lib.hid (show raiG l m = true by unfold raiG ordB; rw [H1.out, H2.out, HL.out, decide_eq_true (show n = 0 by omega), decide_eq_true (show n < 6 by omega)]; rfl)
    have hn0 : ¬ (0 : Int) < (n : Int) := by omega
    have har := ha.below b1
    clear ha
    go_wp2_with (first
      | (at_builtin
         refine wpList_pushAll rfl (.tmp 34) (.tmp 35) _ rfl w1.heap.size 53 i0 _ 7 56 Try.underlying24 hi hz0 hz1 hz2 rfl (by omega) ptV ptV_len one_pt _ 0 0 [] rfl (Own.empty ptV 7 _ 53) _ n c l rfl (har.alloc _) (by simp only [maxLen]; omega) (by omega) (by first | simp; done | (simp; omega)) ?_
         intro B1 d1 w4 o1 g1
         simp only [Nat.zero_add, List.nil_append] at o1
         have b4 : Below w1.heap.size w1 w4 := (below_alloc _).grown g1 (by simp) (fun k hk => by simp [blockOf] at hk; omega)
         have O1 := Lib.hid o1
         clear o1)
      | (at_builtin
         refine wpList_push rfl (.tmp 36) (.tmp 39) _ rfl w1.heap.size 53 i0 _ 7 56 Try.underlying24 hi hz0 hz1 hz2 rfl (by omega) ptV ptV_len one_pt B1 n d1 l rfl O1.out (newP m) _ rfl _ rfl (by first | rfl | simp) (by simp only [maxLen]; omega) (by omega) b4.size ?_
         intro B2 d2 w5 o2 g2
         have b5 := below_push b4 O1.out g2 (Nat.le_refl _)
         have O2 := Lib.hid o2
         clear o2))
    go_ret2
    exact ⟨⟨_, _, _, ret_sl_bool E.out.symm, by rw [raiL_yes E.out]; exact O2.out.base_le (b1).size⟩, below_trans b1 b5⟩


theorem talT {y n a : Int} (h : talB y n a = true) : (0 ≤ y ∧ y ≤ 1000) ∧ (0 ≤ n ∧ n ≤ 1000) ∧ (0 ≤ a ∧ a ≤ 1000) := of_decide_eq_true h
theorem implTally_any (y n a : Int) (w : World) : Calls Try.prog 61 #[.agg #[.int .i64 y, .int .i64 n, .int .i64 a]] w fun e w' => e = .returned (.bool (talB y n a)) ∧ Below w.heap.size w w' := by
  go_enter Try.func61, Try.ntmps61
  go_wp2
  all_goals go_ret
  all_goals exact ⟨ret_bool (by rw [Bool.eq_iff_iff]; first | (simp [talB]; done) | (simp [talB]; omega) | (simp_all [talB]; done) | (simp_all [talB]; omega)), below_alloc _⟩
theorem specTally_any (y n a : Int) (w : World) : Calls Try.prog 67 #[.agg #[.int .i64 y, .int .i64 n, .int .i64 a]] w fun e w' => e = .returned (.bool (talB y n a)) ∧ Below w.heap.size w w' := by
  go_enter Try.func67, Try.ntmps67
  go_wp2
  all_goals go_ret
  all_goals exact ⟨ret_bool (by rw [Bool.eq_iff_iff]; first | (simp [talB]; done) | (simp [talB]; omega) | (simp_all [talB]; done) | (simp_all [talB]; omega)), below_alloc _⟩

set_option maxRecDepth 100000 in
set_option maxHeartbeats 1000000 in
theorem closeDecide_any (g n d k q base : Nat) (l : List PT) (p : PT) (y m a : Int) (w : World) (ho : Own ptV 7 w base 53 (some ⟨g, 0, none⟩) n d l) (hx : l[k]? = some p) (hq0 : w.cell? ⟨q, 0, none⟩ = some (.int .i64 y)) (hq1 : w.cell? ⟨q, 1, none⟩ = some (.int .i64 m)) (hq2 : w.cell? ⟨q, 2, none⟩ = some (.int .i64 a)) (hqg : ¬(q = g)) :
    Calls Try.prog 62 #[.pointer (some ⟨g, k * 7, none⟩), .pointer (some ⟨q, 0, none⟩)] w fun e w' => (∃ v, e = .returned v) ∧ Own ptV 7 w' base 53 (some ⟨g, 0, none⟩) n d (l.set k ⟨p.ra, 4, p.ta, p.ap, y, m, a⟩) ∧ w.grownBy w' (some g) := by
  have p1 := ho.cell ptV_len (j := 1) hx rfl
  have f1 := ho.frozen (k * 7 + 1)
  have p4 := ho.cell ptV_len (j := 4) hx rfl
  have f4 := ho.frozen (k * 7 + 4)
  have p5 := ho.cell ptV_len (j := 5) hx rfl
  have f5 := ho.frozen (k * 7 + 5)
  have p6 := ho.cell ptV_len (j := 6) hx rfl
  have f6 := ho.frozen (k * 7 + 6)
  have hkl := (List.getElem?_eq_some_iff.1 hx).1
  have hqg' : ¬(g = q) := fun e => hqg e.symm
  have HO := Lib.hid ho
  have HX := Lib.hid hx
  clear ho hx
  go_enter Try.func62, Try.ntmps62
  go_region
  have hget : ∀ x : PT, (l.set k x)[k]? = some x := fun x => by rw [List.getElem?_set_self hkl]
  obtain ⟨x1, e1⟩ := HO.out.store ptV_len (i := k) (j := 1) HX.out (by omega) (⟨p.ra, 4, p.ta, p.ap, p.yes, p.no, p.ab⟩ : PT) (.int .i64 4) rfl
  obtain ⟨x2, e2⟩ := x1.store ptV_len (i := k) (j := 4) (hget ⟨p.ra, 4, p.ta, p.ap, p.yes, p.no, p.ab⟩) (by omega) (⟨p.ra, 4, p.ta, p.ap, y, p.no, p.ab⟩ : PT) (.int .i64 y) rfl
  obtain ⟨x3, e3⟩ := x2.store ptV_len (i := k) (j := 5) (x := ⟨p.ra, 4, p.ta, p.ap, y, p.no, p.ab⟩) (by rw [List.set_set]; exact hget _) (by omega) (⟨p.ra, 4, p.ta, p.ap, y, m, p.ab⟩ : PT) (.int .i64 m) rfl
  obtain ⟨x4, e4⟩ := x3.store ptV_len (i := k) (j := 6) (x := ⟨p.ra, 4, p.ta, p.ap, y, m, p.ab⟩) (by rw [List.set_set, List.set_set]; exact hget _) (by omega) (⟨p.ra, 4, p.ta, p.ap, y, m, a⟩ : PT) (.int .i64 a) rfl
  rw [List.set_set, List.set_set, List.set_set] at x4
  go_end0
  exact ⟨⟨_, rfl⟩, x4.drew, grown_below (grown_trans (grown_trans e1 e2) (grown_trans e3 e4)) (Below.refl _ _).drew⟩

set_option maxRecDepth 100000 in
set_option maxHeartbeats 2000000 in
theorem withDecide_any (A : Option Addr) (n c : Nat) (l : List PT) (y m a : Int) (q : Nat) (w : World) (ha : Rd ptV 7 w A n c l) (h0 : 0 < n) (hn : n ≤ 6) (hq0 : w.cell? ⟨q, 0, none⟩ = some (.int .i64 y)) (hq1 : w.cell? ⟨q, 1, none⟩ = some (.int .i64 m)) (hq2 : w.cell? ⟨q, 2, none⟩ = some (.int .i64 a)) :
    Calls Try.prog 46 #[.slice A n c, .func (.func 62) #[] #[.pointer (some ⟨q, 0, none⟩)]] w fun e w' => (∃ B d, e = .returned (.slice B n d) ∧ Own ptV 7 w' w.heap.size 53 B n d (withL l (decP l y m a))) ∧ Below w.heap.size w w' := by
  obtain ⟨i0, hi, hz0, hz1, hz2⟩ := info_parts Try.infopt
  have HL := Lib.hid ha.len
  have hmm := ha.le
  have hqs := lt_of_cell hq0
  go_enter Try.func46, Try.ntmps46
  go_wp2_with ((
     at_builtin
     refine wpList_pushAll rfl _ _ _ rfl w.heap.size 53 i0 _ 7 56 Try.underlying24 hi hz0 hz1 hz2 rfl (by omega) ptV ptV_len one_pt _ 0 0 [] rfl (Own.empty ptV 7 _ 53) _ n c l rfl (ha.alloc _) (by simp only [maxLen]; omega) (by omega) (by first | simp; done | (simp; omega)) ?_
     intro B1 d1 w2 o1 g1
     simp only [Nat.zero_add, List.nil_append] at o1
     have b2 : Below w.heap.size w w2 := (below_alloc _).grown g1 (by simp) (fun k hk => by simp [blockOf] at hk; omega)
     replace hq0 := cell_below b2 hq0
     replace hq1 := cell_below b2 hq1
     replace hq2 := cell_below b2 hq2
     obtain ⟨g, rfl⟩ := o1.form (by omega)
     have hx := last_get HL.out h0
     have hgl := (o1.lt rfl).1
     have HX := Lib.hid hx
     have HO := Lib.hid o1
     have HT := Lib.hid b2
     clear hx o1 b2 ha))
  have hqg : ¬(q = g) := by omega
  refine (closeDecide_any g n d1 (n - 1) q w.heap.size l (lastP l) y m a w2 HO.out HX.out hq0 hq1 hq2 hqg).mono ?_
  rintro e w3 ⟨⟨v, rfl⟩, o3, g3⟩
  go_wp2
  go_ret
  exact ⟨⟨_, _, rfl, by unfold withL decP; rw [HL.out]; exact o3⟩, HT.out.grown g3 HT.out.size (fun k hk => by injection hk with hk; omega)⟩

set_option maxRecDepth 100000 in
set_option maxHeartbeats 2000000 in
theorem implDecide_any (A : Option Addr) (n c : Nat) (l : List PT) (y m a : Int) (w : World) (ha : Rd ptV 7 w A n c l) :
    Calls Try.prog 25 #[.slice A n c, .agg #[.int .i64 y, .int .i64 m, .int .i64 a]] w fun e w' => (∃ B q d, e = .returned (.tuple #[.slice B q d, .bool (decG l y m a)]) ∧ Own ptV 7 w' w.heap.size 53 B q d (decL l y m a)) ∧ Below w.heap.size w w' := by
  have HL := Lib.hid ha.len
  have hmm := ha.le
  have b0 := below_alloc (w := w) (.cells #[.int .i64 y, .int .i64 m, .int .i64 a] 43)
  have q0 : (w.alloc (.cells #[.int .i64 y, .int .i64 m, .int .i64 a] 43)).cell? ⟨w.heap.size, 0, none⟩ = some (.int .i64 y) := cell_of_row _ _ 0 _ _ _ (heap_new rfl)
  have q1 : (w.alloc (.cells #[.int .i64 y, .int .i64 m, .int .i64 a] 43)).cell? ⟨w.heap.size, 1, none⟩ = some (.int .i64 m) := cell_of_row _ _ 1 _ _ _ (heap_new rfl)
  have q2 : (w.alloc (.cells #[.int .i64 y, .int .i64 m, .int .i64 a] 43)).cell? ⟨w.heap.size, 2, none⟩ = some (.int .i64 a) := cell_of_row _ _ 2 _ _ _ (heap_new rfl)
  go_enter Try.func25, Try.ntmps25
  go_wp2_with fail
  refine (lastIn_any _ _ _ _ 3 _ (ha.below b0)).mono ?_
  rintro e w1 ⟨rfl, b1⟩
  replace q0 := cell_below b1 q0
  replace q1 := cell_below b1 q1
  replace q2 := cell_below b1 q2
  have t1 := below_trans b0 b1
  clear b0 b1
  cases h1 : lastB l 3
  · have E := Lib.hid (show decG l y m a = false by unfold decG; rw [h1]; rfl)
    clear h1 ha
    go_wp2
    go_ret2
    exact ⟨⟨_, _, _, ret_sl_bool E.out.symm, by rw [decL_no E.out]; exact Own.nil _ _ _⟩, t1⟩
  have HB := Lib.hid h1
  obtain ⟨hpt, hn0, hst⟩ := lastB_yes h1
  have hn6 : n ≤ 6 := by rw [← ha.len]; exact pts_len hpt
  have hn1 : 0 < n := by rw [← ha.len]; exact hn0
  clear hpt hn0 hst h1
  go_wp2_with fail
  refine (implTally_any y m a _).mono ?_
  rintro e w2 ⟨rfl, b2⟩
  replace q0 := cell_below b2 q0
  replace q1 := cell_below b2 q1
  replace q2 := cell_below b2 q2
  have t2 := below_trans t1 b2
  clear b2
  cases h2 : talB y m a
  · have E := Lib.hid (show decG l y m a = false by unfold decG; rw [h2]; simp)
    clear h2 ha
    go_wp2
    go_ret2
    exact ⟨⟨_, _, _, ret_sl_bool E.out.symm, by rw [decL_no E.out]; exact Own.nil _ _ _⟩, t2⟩
  have E := Lib.hid (show decG l y m a = true by unfold decG; rw [HB.out, h2]; rfl)
  have har := ha.below t2
  clear h2 ha
  go_wp2_with fail
  refine (withDecide_any _ _ _ _ y m a _ _ har hn1 hn6 q0 q1 q2).mono ?_
  rintro e w3 ⟨⟨B, d, rfl, o2⟩, b3⟩
  have t3 := below_trans t2 b3
  go_wp2
  go_ret2
  exact ⟨⟨_, _, _, ret_sl_bool E.out.symm, by rw [decL_yes E.out]; exact o2.base_le t2.size⟩, t3⟩

set_option maxRecDepth 100000 in
set_option maxHeartbeats 2000000 in
theorem specDecide_any (A : Option Addr) (n c : Nat) (l : List PT) (y m a : Int) (w : World) (ha : Rd ptV 7 w A n c l) :
    Calls Try.prog 31 #[.slice A n c, .agg #[.int .i64 y, .int .i64 m, .int .i64 a]] w fun e w' => (∃ B q d, e = .returned (.tuple #[.slice B q d, .bool (decG l y m a)]) ∧ Own ptV 7 w' w.heap.size 53 B q d (decL l y m a)) ∧ Below w.heap.size w w' := by
  have HL := Lib.hid ha.len
  have hmm := ha.le
  have b0 := below_alloc (w := w) (.cells #[.int .i64 y, .int .i64 m, .int .i64 a] 43)
  have q0 : (w.alloc (.cells #[.int .i64 y, .int .i64 m, .int .i64 a] 43)).cell? ⟨w.heap.size, 0, none⟩ = some (.int .i64 y) := cell_of_row _ _ 0 _ _ _ (heap_new rfl)
  have q1 : (w.alloc (.cells #[.int .i64 y, .int .i64 m, .int .i64 a] 43)).cell? ⟨w.heap.size, 1, none⟩ = some (.int .i64 m) := cell_of_row _ _ 1 _ _ _ (heap_new rfl)
  have q2 : (w.alloc (.cells #[.int .i64 y, .int .i64 m, .int .i64 a] 43)).cell? ⟨w.heap.size, 2, none⟩ = some (.int .i64 a) := cell_of_row _ _ 2 _ _ _ (heap_new rfl)
  go_enter Try.func31, Try.ntmps31
  go_wp2_with fail
  refine (l17State_any _ _ _ _ 3 _ (ha.below b0)).mono ?_
  rintro e w1 ⟨rfl, b1⟩
  replace q0 := cell_below b1 q0
  replace q1 := cell_below b1 q1
  replace q2 := cell_below b1 q2
  have t1 := below_trans b0 b1
  clear b0 b1
  cases h1 : lastB l 3
  · have E := Lib.hid (show decG l y m a = false by unfold decG; rw [h1]; rfl)
    clear h1 ha
    go_wp2
    go_ret2
    exact ⟨⟨_, _, _, ret_sl_bool E.out.symm, by rw [decL_no E.out]; exact (Own.empty ptV 7 _ 53).base_le t1.size⟩, below_trans t1 (below_alloc _)⟩
  have HB := Lib.hid h1
  obtain ⟨hpt, hn0, hst⟩ := lastB_yes h1
  have hn6 : n ≤ 6 := by rw [← ha.len]; exact pts_len hpt
  have hn1 : 0 < n := by rw [← ha.len]; exact hn0
  clear hpt hn0 hst h1
  go_wp2_with fail
  refine (specTally_any y m a _).mono ?_
  rintro e w2 ⟨rfl, b2⟩
  replace q0 := cell_below b2 q0
  replace q1 := cell_below b2 q1
  replace q2 := cell_below b2 q2
  have t2 := below_trans t1 b2
  clear b2
  cases h2 : talB y m a
  · have E := Lib.hid (show decG l y m a = false by unfold decG; rw [h2]; simp)
    clear h2 ha
    go_wp2
    go_ret2
    exact ⟨⟨_, _, _, ret_sl_bool E.out.symm, by rw [decL_no E.out]; exact (Own.empty ptV 7 _ 53).base_le t2.size⟩, below_trans t2 (below_alloc _)⟩
  have E := Lib.hid (show decG l y m a = true by unfold decG; rw [HB.out, h2]; rfl)
  have har := ha.below t2
  obtain ⟨b, o, p, hAe, hp, c0, c1, c2, c3, c4, c5, c6⟩ := har.pt (i := n - 1) (by omega)
  have HP : Hid (lastP l = p) := by show _ = _; have := last_get HL.out hn1; rw [hp] at this; injection this with this; exact this.symm
  subst hAe
  obtain ⟨n0, hn0⟩ : ∃ n0, n = n0 + 1 := ⟨n - 1, by omega⟩
  have HN0 := Lib.hid hn0
  have hws : w.heap.size < w2.heap.size := lt_of_cell q0
  clear h2 ha hp hn0
  go_wp2_with fail
  refine (l17Last_n _ n c l (⟨p.ra, 4, p.ta, p.ap, y, m, a⟩ : PT) _ hn1 (har.alloc _) (by omega)).mono ?_
  rintro e w3 ⟨⟨B, d, rfl, o3⟩, b3⟩
  have t3 := below_trans t2 (below_trans (below_alloc _) b3)
  go_wp2
  go_ret2
  exact ⟨⟨_, _, _, ret_sl_bool E.out.symm, by rw [decL_yes E.out]; unfold decP; rw [HP.out]; exact o3.base_le (Nat.le_trans t2.size (below_alloc _).size)⟩, t3⟩


end Go.Proofs.Ytjeldedmaanhbaa
