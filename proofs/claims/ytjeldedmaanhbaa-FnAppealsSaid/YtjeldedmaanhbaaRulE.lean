/-
  YtjeldedmaanhbaaRulE: rulings: ReversedPoints, VotesToReverse, both sides; the laws' own helpers. (Printed by wip/gen/rule.py.)
-/
import Derived.Test.YtjeldedmaanhbaaRulD
namespace Go.Proofs.Ytjeldedmaanhbaa
open Go Go.RowKit Go.Sort
set_option linter.unusedVariables false

def revTo (l : List PT) (k : Nat) : List Int := ((List.range k).filter (fun (i : Nat) => revB (ptAt l (i : Int)))).map (fun (i : Nat) => (i : Int))
theorem revTo_zero (l : List PT) : revTo l 0 = [] := rfl
theorem revTo_yes {l : List PT} {k : Nat} (h : revB (ptAt l (k : Int)) = true) : revTo l (k + 1) = revTo l k ++ [(k : Int)] := by simp [revTo, List.range_succ, List.filter_append, h]
theorem revTo_no {l : List PT} {k : Nat} (h : revB (ptAt l (k : Int)) = false) : revTo l (k + 1) = revTo l k := by simp [revTo, List.range_succ, List.filter_append, h]
theorem revTo_mem {l : List PT} {k i : Nat} (h : i < k) : ((i : Int) ∈ revTo l k) ↔ revB (ptAt l (i : Int)) = true := by
  simp only [revTo, List.mem_map, List.mem_filter, List.mem_range]
  constructor
  · rintro ⟨j, ⟨_, h2⟩, h3⟩
    have : j = i := by omega
    subst this; exact h2
  · intro h2; exact ⟨i, ⟨h, h2⟩, rfl⟩
def revL (l : List PT) : List Int := if ptsB l then revTo l l.length else []
theorem revL_yes {l : List PT} (h : ptsB l = true) : revL l = revTo l l.length := by simp [revL, h]
theorem revL_no {l : List PT} (h : ptsB l = false) : revL l = [] := by simp [revL, h]
theorem one_inR : ∀ x : Int, ∀ u ∈ [Value.int .i64 x], u.oneCell' = true := by intro x u h; simp at h; subst h; rfl
theorem Try.infoiv : (Try.prog.info? 3).map (fun i => (i.zero, i.size, i.bytes)) = some (some (.int .i64 0), 1, 8) := by kernel_rfl


set_option maxRecDepth 100000 in
set_option maxHeartbeats 2000000 in
theorem implReversed_any (A : Option Addr) (n c : Nat) (l : List PT) (w : World) (ha : Rd ptV 7 w A n c l) :
    Calls Try.prog 32 #[.slice A n c] w fun e w' => (∃ B q d, e = .returned (.tuple #[.slice B q d, .bool (ptsB l)]) ∧ Own inV 1 w' w.heap.size 3 B q d (revL l)) ∧ Below w.heap.size w w' := by
  obtain ⟨i0, hii, hz0, hz1, hz2⟩ := info_parts Try.infoiv
  have HL := Lib.hid ha.len
  have hmm := ha.le
  go_enter Try.func32, Try.ntmps32
  go_wp2_with fail
  refine (ArePoints_any _ _ _ _ _ ha).mono ?_
  rintro e w1 ⟨rfl, b1⟩
  cases h1 : ptsB l
  · have E := Lib.hid h1
    clear ha h1
    go_wp2
    go_ret2
    exact ⟨⟨_, _, _, ret_sl_bool E.out.symm, by rw [revL_no E.out]; exact Own.nil _ _ _⟩, b1⟩
  have E := Lib.hid h1
  have hn6 : n ≤ 6 := by rw [← ha.len]; exact pts_len h1
  have oe : Own inV 1 (w1.alloc (.cells #[] 3)) w.heap.size 3 (some ⟨w1.heap.size, 0, none⟩) 0 0 (revTo l 0) := (Own.empty inV 1 w1 3).base_le b1.size
  have t1 : Below w.heap.size w (w1.alloc (.cells #[] 3)) := below_trans b1 (below_alloc _)
  clear h1
  go_wp2
  go_loopw [4, 13] (fun v kv wr => ∃ k : Nat, k ≤ n ∧ kv = .int .i64 k ∧ (∃ B q d, v = .slice B q d ∧ q ≤ k ∧ Own inV 1 wr w.heap.size 3 B q d (revTo l k)) ∧ Below w.heap.size w wr) (fun _ kv _ => n - (intOf kv).toNat)
  case atStart => exact ⟨0, Nat.zero_le _, rfl, ⟨_, 0, 0, rfl, Nat.le_refl _, oe⟩, t1⟩
  case round =>
    clear oe t1
    obtain ⟨k, hk, rfl, ⟨B, q, d, rfl, hq, ho⟩, hbw⟩ := hrel
    have HO := Lib.hid ho
    clear ho
    by_cases hlt : k < n
    · obtain ⟨b5, o5, p, rfl, hp, c0, c1, c2, c3, c4, c5, c6⟩ := (ha.below hbw).pt (i := k) (by omega)
      have HP : Hid (ptAt l (k : Int) = p) := by show _ = _; simp [ptAt, List.getD, hp]
      clear hp
      go_wp2_with fail
      refine (isRev_any p _).mono ?_
      rintro e w2 ⟨rfl, b2⟩
      have t2 := below_trans hbw (below_trans (below_alloc (w := wr) (.cells #[.int .i64 p.ra, .int .i64 p.st, .bool p.ta, .int .i64 p.ap, .int .i64 p.yes, .int .i64 p.no, .int .i64 p.ab] 53)) b2)
      have O2 := Lib.hid ((HO.out.alloc (.cells #[.int .i64 p.ra, .int .i64 p.st, .bool p.ta, .int .i64 p.ap, .int .i64 p.yes, .int .i64 p.no, .int .i64 p.ab] 53)).below b2)
      clear b2
      cases h3 : revB p
      · have EN := Lib.hid (revTo_no (l := l) (k := k) (by rw [HP.out]; exact h3))
        clear h3
        go_wp2
        go_roundw
        case rel => exact ⟨k + 1, by omega, by go_num, ⟨B, q, d, rfl, by omega, by rw [EN.out]; exact O2.out⟩, t2⟩
        case measure => first | (simp [intOf]; done) | (simp [intOf]; omega)
      · have EN := Lib.hid (revTo_yes (l := l) (k := k) (by rw [HP.out]; exact h3))
        clear h3
        go_wp2_with (at_builtin; refine wpList_push rfl _ _ _ rfl w.heap.size 3 i0 (.int .i64 0) 1 8 Try.underlying48 hii hz0 hz1 hz2 rfl (by omega) inV inV_len one_inR B q d _ rfl O2.out (k : Int) _ rfl _ rfl (by first | rfl | simp) (by simp only [maxLen]; omega) (by omega) t2.size ?_; intro B3 d3 w3 ho3 hg3)
        have O3 := Lib.hid ho3
        clear ho3
        go_roundw
        case rel => exact ⟨k + 1, by omega, by go_num, ⟨B3, q + 1, d3, rfl, by omega, by rw [EN.out]; exact O3.out⟩, below_push t2 O2.out hg3 (Nat.le_refl _)⟩
        case measure => first | (simp [intOf]; done) | (simp [intOf]; omega)
    · obtain rfl : n = k := by omega
      clear ha
      go_wp2
      go_ret2
      exact ⟨⟨_, _, _, ret_sl_bool E.out.symm, by rw [revL_yes E.out, HL.out]; exact HO.out⟩, hbw⟩


set_option maxRecDepth 100000 in
set_option maxHeartbeats 2000000 in
theorem specReversed_any (A : Option Addr) (n c : Nat) (l : List PT) (w : World) (ha : Rd ptV 7 w A n c l) :
    Calls Try.prog 38 #[.slice A n c] w fun e w' => (∃ B q d, e = .returned (.tuple #[.slice B q d, .bool (ptsB l)]) ∧ Own inV 1 w' w.heap.size 3 B q d (revL l)) ∧ Below w.heap.size w w' := by
  obtain ⟨i0, hii, hz0, hz1, hz2⟩ := info_parts Try.infoiv
  have HL := Lib.hid ha.len
  have hmm := ha.le
  have oe := Own.empty inV 1 w 3
  have b0 := below_alloc (w := w) (.cells #[] 3)
  go_enter Try.func38, Try.ntmps38
  go_wp2_with fail
  refine (l17Good_any _ _ _ _ _ (ha.below b0)).mono ?_
  rintro e w1 ⟨rfl, b1⟩
  have oe1 := oe.below b1
  have t1 := below_trans b0 b1
  clear oe b0 b1
  cases h1 : ptsB l
  · have E := Lib.hid h1
    clear ha h1
    go_wp2
    go_ret2
    exact ⟨⟨_, _, _, ret_sl_bool E.out.symm, by rw [revL_no E.out]; exact oe1⟩, t1⟩
  have E := Lib.hid h1
  have hn6 : n ≤ 6 := by rw [← ha.len]; exact pts_len h1
  have oe : Own inV 1 w1 w.heap.size 3 (some ⟨w.heap.size, 0, none⟩) 0 0 (revTo l 0) := oe1
  clear h1 oe1
  go_wp2
  go_loopw [4, 5] (fun v kv wr => ∃ k : Nat, k ≤ n ∧ kv = .int .i64 k ∧ (∃ B q d, v = .slice B q d ∧ q ≤ k ∧ Own inV 1 wr w.heap.size 3 B q d (revTo l k)) ∧ Below w.heap.size w wr) (fun _ kv _ => n - (intOf kv).toNat)
  case atStart => exact ⟨0, Nat.zero_le _, rfl, ⟨_, 0, 0, rfl, Nat.le_refl _, oe⟩, t1⟩
  case round =>
    clear oe t1
    obtain ⟨k, hk, rfl, ⟨B, q, d, rfl, hq, ho⟩, hbw⟩ := hrel
    have HO := Lib.hid ho
    clear ho
    by_cases hlt : k < n
    · obtain ⟨b5, o5, p, rfl, hp, c0, c1, c2, c3, c4, c5, c6⟩ := (ha.below hbw).pt (i := k) (by omega)
      have HP : Hid (ptAt l (k : Int) = p) := by show _ = _; simp [ptAt, List.getD, hp]
      clear hp
      go_wp2_with fail
      refine (l17Rev_any p _).mono ?_
      rintro e w2 ⟨rfl, b2⟩
      have t2 := below_trans hbw b2
      have O2 := Lib.hid (HO.out.below b2)
      clear b2
      cases h3 : revB p
      · have EN := Lib.hid (revTo_no (l := l) (k := k) (by rw [HP.out]; exact h3))
        clear h3
        go_wp2
        go_roundw
        case rel => exact ⟨k + 1, by omega, by go_num, ⟨B, q, d, rfl, by omega, by rw [EN.out]; exact O2.out⟩, t2⟩
        case measure => first | (simp [intOf]; done) | (simp [intOf]; omega)
      · have EN := Lib.hid (revTo_yes (l := l) (k := k) (by rw [HP.out]; exact h3))
        clear h3
        go_wp2_with (at_builtin; refine wpList_push rfl _ _ _ rfl w.heap.size 3 i0 (.int .i64 0) 1 8 Try.underlying48 hii hz0 hz1 hz2 rfl (by omega) inV inV_len one_inR B q d _ rfl O2.out (k : Int) _ rfl _ rfl (by first | rfl | simp) (by simp only [maxLen]; omega) (by omega) t2.size ?_; intro B3 d3 w3 ho3 hg3)
        have O3 := Lib.hid ho3
        clear ho3
        go_roundw
        case rel => exact ⟨k + 1, by omega, by go_num, ⟨B3, q + 1, d3, rfl, by omega, by rw [EN.out]; exact O3.out⟩, below_push t2 O2.out hg3 (Nat.le_refl _)⟩
        case measure => first | (simp [intOf]; done) | (simp [intOf]; omega)
    · obtain rfl : n = k := by omega
      clear ha
      go_wp2
      go_ret2
      exact ⟨⟨_, _, _, ret_sl_bool E.out.symm, by rw [revL_yes E.out, HL.out]; exact HO.out⟩, hbw⟩


/-! ### the votes that would reverse a ruling -/
def votG (y n a : Int) : Bool := talB y n a && !decide (y = 0 ∧ n = 0)
def votV (y n a : Int) : Int := if votG y n a then (if y < n then 0 else (y - n) / 2 + 1) else 0
theorem votV_yes {y n a : Int} (h : votG y n a = true) : votV y n a = if y < n then 0 else (y - n) / 2 + 1 := by simp [votV, h]
theorem votV_no {y n a : Int} (h : votG y n a = false) : votV y n a = 0 := by simp [votV, h]
theorem vot_found {y n a k : Int} (ht : talB y n a = true) (h0 : 0 ≤ k) (hk : k ≤ y) (hu : ∀ j : Int, 0 ≤ j → j < k → n + j ≤ y - j) (h : y - k < n + k) : votG y n a = true ∧ votV y n a = k := by
  have hb := talT ht
  have hG : votG y n a = true := by
    unfold votG
    rw [ht, decide_eq_false]
    · rfl
    · rintro ⟨rfl, rfl⟩; omega
  refine ⟨hG, ?_⟩
  rw [votV_yes hG]
  rcases Int.lt_or_le y n with h1 | h1
  · rw [if_pos h1]
    rcases Int.lt_or_le 0 k with h2 | h2
    · have := hu 0 (by omega) h2; omega
    · omega
  · rw [if_neg (by omega)]
    have := hu (k - 1) (by omega) (by omega)
    omega
theorem vot_none {y n a : Int} (ht : talB y n a = true) (hu : ∀ j : Int, 0 ≤ j → j < y + 1 → n + j ≤ y - j) : votG y n a = false := by
  have hb := talT ht
  have := hu y (by omega) (by omega)
  unfold votG
  rw [decide_eq_true (by omega)]
  simp
theorem ret_int_bool' {a c : Int} {b d : Bool} (h : a = c) (h' : b = d) : Ending.returned (.tuple #[.int .i64 a, .bool b]) = .returned (.tuple #[.int .i64 c, .bool d]) := by rw [h, h']


set_option maxRecDepth 100000 in
set_option maxHeartbeats 1000000 in
theorem implVotes_any (y n a : Int) (w : World) : Calls Try.prog 35 #[.agg #[.int .i64 y, .int .i64 n, .int .i64 a]] w fun e w' => e = .returned (.tuple #[.int .i64 (votV y n a), .bool (votG y n a)]) ∧ Below w.heap.size w w' := by
  have b0 := below_alloc (w := w) (.cells #[.int .i64 y, .int .i64 n, .int .i64 a] 43)
  have q0 : (w.alloc (.cells #[.int .i64 y, .int .i64 n, .int .i64 a] 43)).cell? ⟨w.heap.size, 0, none⟩ = some (.int .i64 y) := cell_of_row _ _ 0 _ _ _ (heap_new rfl)
  have q1 : (w.alloc (.cells #[.int .i64 y, .int .i64 n, .int .i64 a] 43)).cell? ⟨w.heap.size, 1, none⟩ = some (.int .i64 n) := cell_of_row _ _ 1 _ _ _ (heap_new rfl)
  have q2 : (w.alloc (.cells #[.int .i64 y, .int .i64 n, .int .i64 a] 43)).cell? ⟨w.heap.size, 2, none⟩ = some (.int .i64 a) := cell_of_row _ _ 2 _ _ _ (heap_new rfl)
  go_enter Try.func35, Try.ntmps35
  go_wp2_with fail
  refine (implTally_any y n a _).mono ?_
  rintro e w1 ⟨rfl, b1⟩
  replace q0 := cell_below b1 q0
  replace q1 := cell_below b1 q1
  replace q2 := cell_below b1 q2
  have t1 := below_trans b0 b1
  clear b0 b1
  cases h1 : talB y n a
  · have E := Lib.hid (show votG y n a = false by unfold votG; rw [h1]; rfl)
    clear h1
    go_wp2
    go_ret2
    exact ⟨ret_int_bool' (votV_no E.out).symm E.out.symm, t1⟩
  have H1 := Lib.hid h1
  obtain ⟨⟨hy0, hy1⟩, ⟨hn0, hn1⟩, -⟩ := talT h1
  clear h1
  go_wp2
  go_loop [4] (fun kv => ∃ k : Int, 0 ≤ k ∧ k ≤ y + 1 ∧ kv = .int .i64 k ∧ Hid (∀ j : Int, 0 ≤ j → j < k → n + j ≤ y - j)) (fun kv => (y + 1 - intOf kv).toNat)
  case atStart => exact ⟨0, by omega, by omega, rfl, fun j h1 h2 => by omega⟩
  case round =>
    obtain ⟨k, hk0, hk1, rfl, hu⟩ := hrel
    by_cases hk : k ≤ y
    · by_cases ht : y - k < n + k
      · have E := Lib.hid (vot_found H1.out hk0 hk hu.out ht)
        go_wp2
        go_ret2
        exact ⟨ret_int_bool' E.out.2.symm E.out.1.symm, t1⟩
      · have HN : Hid (∀ j : Int, 0 ≤ j → j < k + 1 → n + j ≤ y - j) := fun j h1 h2 => by
          by_cases e : j = k
          · subst e; omega
          · exact hu.out j h1 (by omega)
        go_wp2
        go_round
        case rel => exact ⟨k + 1, by omega, by omega, rfl, HN⟩
        case measure => first | (simp [intOf]; done) | (simp [intOf]; omega)
    · obtain rfl : k = y + 1 := by omega
      have E := Lib.hid (vot_none H1.out hu.out)
      go_wp2
      go_ret2
      exact ⟨ret_int_bool' (votV_no E.out).symm E.out.symm, t1⟩


set_option maxRecDepth 100000 in
set_option maxHeartbeats 1000000 in
theorem specVotes_any (y n a : Int) (w : World) : Calls Try.prog 36 #[.agg #[.int .i64 y, .int .i64 n, .int .i64 a]] w fun e w' => e = .returned (.tuple #[.int .i64 (votV y n a), .bool (votG y n a)]) ∧ Below w.heap.size w w' := by
  have b0 := below_alloc (w := w) (.cells #[.int .i64 y, .int .i64 n, .int .i64 a] 43)
  have q0 : (w.alloc (.cells #[.int .i64 y, .int .i64 n, .int .i64 a] 43)).cell? ⟨w.heap.size, 0, none⟩ = some (.int .i64 y) := cell_of_row _ _ 0 _ _ _ (heap_new rfl)
  have q1 : (w.alloc (.cells #[.int .i64 y, .int .i64 n, .int .i64 a] 43)).cell? ⟨w.heap.size, 1, none⟩ = some (.int .i64 n) := cell_of_row _ _ 1 _ _ _ (heap_new rfl)
  have q2 : (w.alloc (.cells #[.int .i64 y, .int .i64 n, .int .i64 a] 43)).cell? ⟨w.heap.size, 2, none⟩ = some (.int .i64 a) := cell_of_row _ _ 2 _ _ _ (heap_new rfl)
  go_enter Try.func36, Try.ntmps36
  go_wp2_with fail
  refine (specTally_any y n a _).mono ?_
  rintro e w1 ⟨rfl, b1⟩
  replace q0 := cell_below b1 q0
  replace q1 := cell_below b1 q1
  replace q2 := cell_below b1 q2
  have t1 := below_trans b0 b1
  clear b0 b1
  cases h1 : talB y n a
  · have E := Lib.hid (show votG y n a = false by unfold votG; rw [h1]; rfl)
    clear h1
    go_wp2
    go_ret2
    exact ⟨ret_int_bool' (votV_no E.out).symm E.out.symm, t1⟩
  have H1 := Lib.hid h1
  obtain ⟨⟨hy0, hy1⟩, ⟨hn0, hn1⟩, -⟩ := talT h1
  clear h1
  go_wp2
  go_loop [4] (fun kv => ∃ k : Int, 0 ≤ k ∧ k ≤ y + 1 ∧ kv = .int .i64 k ∧ Hid (∀ j : Int, 0 ≤ j → j < k → n + j ≤ y - j)) (fun kv => (y + 1 - intOf kv).toNat)
  case atStart => exact ⟨0, by omega, by omega, rfl, fun j h1 h2 => by omega⟩
  case round =>
    obtain ⟨k, hk0, hk1, rfl, hu⟩ := hrel
    by_cases hk : k ≤ y
    · by_cases ht : y - k < n + k
      · have E := Lib.hid (vot_found H1.out hk0 hk hu.out ht)
        go_wp2
        go_ret2
        exact ⟨ret_int_bool' E.out.2.symm E.out.1.symm, t1⟩
      · have HN : Hid (∀ j : Int, 0 ≤ j → j < k + 1 → n + j ≤ y - j) := fun j h1 h2 => by
          by_cases e : j = k
          · subst e; omega
          · exact hu.out j h1 (by omega)
        go_wp2
        go_round
        case rel => exact ⟨k + 1, by omega, by omega, rfl, HN⟩
        case measure => first | (simp [intOf]; done) | (simp [intOf]; omega)
    · obtain rfl : k = y + 1 := by omega
      have E := Lib.hid (vot_none H1.out hu.out)
      go_wp2
      go_ret2
      exact ⟨ret_int_bool' (votV_no E.out).symm E.out.symm, t1⟩


theorem specAre_any (A : Option Addr) (n c : Nat) (l : List PT) (w : World) (ha : Rd ptV 7 w A n c l) : Calls Try.prog 22 #[.slice A n c] w fun e w' => e = .returned (.bool (ptsB l)) ∧ Below w.heap.size w w' := by
  go_enter Try.func22, Try.ntmps22
  go_wp2_with fail
  refine (l17Good_any _ _ _ _ _ ha).mono ?_
  rintro e w1 ⟨rfl, b1⟩
  go_wp2
  go_ret
  exact ⟨rfl, b1⟩


end Go.Proofs.Ytjeldedmaanhbaa
