/-
  YtmmogpbbehgkiaaTraO: traces: what is drawn for the great law on outcomes; tables and sums in the law file. (Printed by wip/gen/zout.py.)
-/
import Derived.Test.YtmmogpbbehgkiaaTraDB
import Derived.Test.YtmmogpbbehgkiaaMovC
import Derived.Test.YtmmogpbbehgkiaaVee
import Derived.Lib.QuietBelow
namespace Go.Proofs.Ytmmogpbbehgkiaa
open Go Go.RowKit Go.Sort
set_option linter.unusedVariables false

set_option maxRecDepth 100000 in
set_option maxHeartbeats 1000000 in
theorem vTable_same (A B : Option Addr) (n m c d : Nat) (hs ks : List HI) (l : List (List Int)) (w : World) (ha : RdI w A n c hs l) (hb : RdI w B m d ks l) :
    Calls Try.prog 21 #[.slice A n c, .slice B m d] w fun e w' => e = .returned (.bool true) ∧ Below w.heap.size w w' := by
  have hm := ha.le
  obtain rfl : n = m := ha.len.symm.trans hb.len
  go_enter Try.func21, Try.ntmps21
  go_wp2
  go_loopw [5] (fun i wr => ∃ k : Nat, k ≤ n ∧ i = .int .i64 k ∧ Below w.heap.size w wr) (fun i _ => n - (intOf i).toNat)
  case atStart => exact ⟨0, Nat.zero_le _, rfl, Below.refl _ _⟩
  case round =>
    obtain ⟨k, hk, rfl, hbw⟩ := hrel
    by_cases hlt : k < n
    · obtain ⟨b1, o1, h, x, rfl, hx, -, c0, x0⟩ := (ha.below hbw).at hlt
      obtain ⟨b2, o2, h', x', rfl, hx', -, d0, y0⟩ := (hb.below hbw).at hlt
      obtain rfl : x = x' := by rw [hx] at hx'; injection hx'
      clear hx hx' ha hb
      have k0 := cell_regrown c0
      have q0 := cell_regrown d0
      go_wp2
      refine wp_region_quiet_below (by kernel_rfl) (by kernel_rfl) ?_
      repeat (go_big_quiet_step ((go_at_call 18; exact Calls.regrown_of (vInts_same _ _ _ _ _ _ _ _ (x0.below (below_regrown _ _ _)) (y0.below (below_regrown _ _ _))))))
      refine wpQuiet_nil ?_
      intro _ hw'
      obtain ⟨⟨dq, osq⟩, hw''⟩ := hw'
      subst hw''
      go_wp2
      go_roundw
      case rel => exact ⟨k + 1, by omega, by go_num, below_grow hbw _ _⟩
      case measure => simp [intOf]; omega
    · go_wp2
      go_ret
      exact ⟨rfl, hbw⟩

theorem sum_bd : ∀ l : List Int, (∀ x ∈ l, 0 ≤ x ∧ x ≤ 1000) → 0 ≤ l.sum ∧ l.sum ≤ 1000 * (l.length : Int)
  | [], _ => by simp
  | x :: l, h => by
    have h1 := sum_bd l fun y hy => h y (List.mem_cons_of_mem _ hy)
    have h2 := h x List.mem_cons_self
    rw [List.sum_cons, List.length_cons]
    omega
theorem sum_next {l : List Int} {k : Nat} {x : Int} (h : l[k]? = some x) : (l.take (k + 1)).sum = (l.take k).sum + x := by
  rw [List.take_add_one, h, List.sum_append]; simp
set_option maxRecDepth 100000 in
set_option maxHeartbeats 1000000 in
theorem rSum_any (A : Option Addr) (n c : Nat) (l : List Int) (w : World) (ha : Rd inV 1 w A n c l) (hb : ∀ x ∈ l, 0 ≤ x ∧ x ≤ 1000) (hn : n ≤ 1048576) :
    Calls Try.prog 23 #[.slice A n c] w fun e w' => e = .returned (.int .i64 l.sum) ∧ w = w' := by
  have HL := Lib.hid ha.len
  have HB := Lib.hid hb
  clear hb
  go_enter Try.func23, Try.ntmps23
  go_wp2
  go_loop [3, 4] (fun s i => ∃ k : Nat, k ≤ n ∧ i = .int .i64 k ∧ s = .int .i64 (l.take k).sum) (fun _ i => n - (intOf i).toNat)
  case atStart => exact ⟨0, Nat.zero_le _, rfl, rfl⟩
  case round =>
    obtain ⟨k, hk, rfl, rfl⟩ := hrel
    have hbd := sum_bd (l.take k) fun x hx => HB.out x (List.mem_of_mem_take hx)
    have hlk : (l.take k).length ≤ k := List.length_take_le _ _
    by_cases hlt : k < n
    · obtain ⟨b1, o1, x, rfl, hs, c0⟩ := ha.in hlt
      have hx := HB.out x (List.mem_of_getElem? hs)
      have NX := Lib.hid (sum_next hs)
      clear hs ha
      generalize (l.take k).sum = s at *
      go_wp2
      go_round
      case rel => exact ⟨k + 1, by omega, by go_num, by rw [NX.out]⟩
      case measure => simp [intOf]; omega
    · obtain rfl : k = n := by omega
      have E : Hid ((l.take k).sum = l.sum) := by show _ = _; rw [List.take_of_length_le (by rw [HL.out]; exact Nat.le_refl _)]
      clear ha
      generalize (l.take k).sum = s at *
      go_wp2
      go_ret
      exact ⟨ret_int E.out, rfl⟩

set_option maxRecDepth 100000 in
theorem drawTrace_any (A : Option Addr) (n c : Nat) (l : List Int) (w : World) (ha : Rd byV 1 w A n c l) (hb : ∀ x ∈ l, 0 ≤ x ∧ x ≤ 255) : Calls Try.prog 40 #[.slice A n c] w fun e w' => (∃ B q d l, e = .returned (.slice B q d) ∧ q ≤ 25 ∧ View tsV 2 w' w.heap.size B q d l) ∧ Below w.heap.size w w' := by
  have C0 := Lib.hid (Cur.start ha hb)
  have b0 := below_alloc (w := w) (.cells #[.slice A n c, .int .i64 0, .int .u64 0] 63)
  have hgw : w.heap.size < (w.alloc (.cells #[.slice A n c, .int .i64 0, .int .u64 0] 63)).heap.size := by simp
  go_enter Try.func40, Try.ntmps40
  go_wp2_with fail
  generalize hw0 : w.alloc (.cells #[.slice A n c, .int .i64 0, .int .u64 0] 63) = w0 at *
  clear hw0
  refine (traceList_any w.heap.size 0 _ C0.out (by omega)).mono ?_
  rintro e w1 ⟨⟨B, q, d, lp, rfl, hq, o1⟩, hc, hg⟩
  have G1 := Lib.hid hg
  have L1 := Lib.hid o1
  clear hc hg o1 C0
  go_wp2
  go_ret
  exact ⟨⟨_, _, _, _, rfl, hq, L1.out.base_le (Nat.le_of_lt hgw)⟩, (b0.trans (below_cur G1.out (Nat.le_refl _) (Nat.le_of_lt hgw)))⟩

theorem drawOutcome_any (A : Option Addr) (n c : Nat) (l : List Int) (w : World) (ha : Rd byV 1 w A n c l) (hb : ∀ x ∈ l, 0 ≤ x ∧ x ≤ 255) : Calls Try.prog 15 #[.slice A n c] w fun e w' => (∃ B q d l, e = .returned (.slice B q d) ∧ q ≤ 25 ∧ View tsV 2 w' w.heap.size B q d l) ∧ Below w.heap.size w w' := by
  go_enter Try.func15, Try.ntmps15
  go_wp2_with fail
  refine (drawTrace_any _ _ _ _ _ ha hb).mono ?_
  rintro e w1 ⟨⟨B, q, d, lp, rfl, hq, o1⟩, b1⟩
  have O1 := Lib.hid o1
  clear o1
  go_wp2
  go_ret
  exact ⟨⟨_, _, _, _, rfl, hq, O1.out⟩, b1⟩

theorem own_seven (w : World) : Own inV 1 (w.alloc (.cells #[.int .i64 1, .int .i64 2, .int .i64 3, .int .i64 4, .int .i64 20, .int .i64 0, .int .i64 21] 3)) w.heap.size 3 (some ⟨w.heap.size, 0, none⟩) 7 7 [1, 2, 3, 4, 20, 0, 21] := ⟨rfl, by
    have := World.ownsRow_lit (base := w.heap.size) (e := 3) (size := 1) w #[.int .i64 1, .int .i64 2, .int .i64 3, .int .i64 4, .int .i64 20, .int .i64 0, .int .i64 21] 7 (Nat.le_refl _) (by simp [maxLen]) rfl
    simpa [inV] using this⟩
set_option maxRecDepth 100000 in
set_option maxHeartbeats 2000000 in
theorem drawPath_any (A : Option Addr) (n c : Nat) (l : List Int) (w : World) (ha : Rd byV 1 w A n c l) (hb : ∀ x ∈ l, 0 ≤ x ∧ x ≤ 255) : Calls Try.prog 24 #[.slice A n c] w fun e w' => (∃ B q d l m, e = .returned (.tuple #[.slice B q d, .int .i64 m]) ∧ q ≤ 25 ∧ View tsV 2 w' w.heap.size B q d l) ∧ Below w.heap.size w w' := by
  have C0 := Lib.hid (Cur.start ha hb)
  have b0 := below_alloc (w := w) (.cells #[.slice A n c, .int .i64 0, .int .u64 0] 63)
  have hgw : w.heap.size < (w.alloc (.cells #[.slice A n c, .int .i64 0, .int .u64 0] 63)).heap.size := by simp
  go_enter Try.func24, Try.ntmps24
  go_wp2_with fail
  generalize hw0 : w.alloc (.cells #[.slice A n c, .int .i64 0, .int .u64 0] 63) = w0 at *
  clear hw0
  refine (traceList_any w.heap.size 0 _ C0.out (by omega)).mono ?_
  rintro e w1 ⟨⟨B, q, d, lp, rfl, hq, o1⟩, hc, hg⟩
  have C1 := Lib.hid (hc.below (below_alloc (.cells #[.int .i64 1, .int .i64 2, .int .i64 3, .int .i64 4, .int .i64 20, .int .i64 0, .int .i64 21] 3)))
  have G1 := Lib.hid (grown_below hg (below_alloc (.cells #[.int .i64 1, .int .i64 2, .int .i64 3, .int .i64 4, .int .i64 20, .int .i64 0, .int .i64 21] 3)))
  have L1 := Lib.hid (o1.below (below_alloc (.cells #[.int .i64 1, .int .i64 2, .int .i64 3, .int .i64 4, .int .i64 20, .int .i64 0, .int .i64 21] 3)))
  have S1 := Lib.hid (own_seven w1)
  have hg1 : w.heap.size < w1.heap.size := hc.lt
  clear hc hg o1 C0
  go_wp2_with fail
  refine (pick_any w.heap.size 400 24 _ (C1.out.le (by omega)) (by omega) (by omega) (by omega)).mono ?_
  rintro e w2 ⟨⟨x, rfl, x0, x1⟩, hc, hg⟩
  have C2 := Lib.hid hc
  have G2 := Lib.hid (grown_trans G1.out hg)
  have L2 := Lib.hid (L1.out.cur hg hgw)
  have S2 := Lib.hid (S1.out.cur hg hg1)
  clear hc hg C1 G1 L1 S1
  have hx : x / 11 = 0 ∨ x / 11 = 1 ∨ x / 11 = 2 := by omega
  rcases hx with hx | hx | hx
  · go_wp2_with fail
    refine (among_any w.heap.size 402 _ 5 7 _ _ (C2.out.le (by omega)) (by omega) (((S2.out.rd inV_len).take' (k := 5) (by omega))) (by omega) (by omega) (fun a ha => by injection ha with ha; subst ha; show w1.heap.size ≠ w.heap.size; omega)).mono ?_
    rintro e w3 ⟨⟨y, rfl, hy⟩, hc, hg⟩
    have G3 := Lib.hid (grown_trans G2.out hg)
    have L3 := Lib.hid (L2.out.cur hg hgw)
    clear hc hg C2 G2 L2 S2 hy
    go_wp2
    go_ret2
    exact ⟨⟨_, _, _, _, _, rfl, hq, L3.out.base_le (Nat.le_of_lt hgw)⟩, (b0.trans (below_cur G3.out (Nat.le_refl _) (Nat.le_of_lt hgw)))⟩
  · go_wp2_with fail
    refine (among_any w.heap.size 402 _ 6 7 _ _ (C2.out.le (by omega)) (by omega) (((S2.out.rd inV_len).take' (k := 6) (by omega))) (by omega) (by omega) (fun a ha => by injection ha with ha; subst ha; show w1.heap.size ≠ w.heap.size; omega)).mono ?_
    rintro e w3 ⟨⟨y, rfl, hy⟩, hc, hg⟩
    have G3 := Lib.hid (grown_trans G2.out hg)
    have L3 := Lib.hid (L2.out.cur hg hgw)
    clear hc hg C2 G2 L2 S2 hy
    go_wp2
    go_ret2
    exact ⟨⟨_, _, _, _, _, rfl, hq, L3.out.base_le (Nat.le_of_lt hgw)⟩, (b0.trans (below_cur G3.out (Nat.le_refl _) (Nat.le_of_lt hgw)))⟩
  · go_wp2_with fail
    refine (among_any w.heap.size 402 _ 7 7 _ _ (C2.out.le (by omega)) (by omega) (((S2.out.rd inV_len).take' (k := 7) (by omega))) (by omega) (by omega) (fun a ha => by injection ha with ha; subst ha; show w1.heap.size ≠ w.heap.size; omega)).mono ?_
    rintro e w3 ⟨⟨y, rfl, hy⟩, hc, hg⟩
    have G3 := Lib.hid (grown_trans G2.out hg)
    have L3 := Lib.hid (L2.out.cur hg hgw)
    clear hc hg C2 G2 L2 S2 hy
    go_wp2
    go_ret2
    exact ⟨⟨_, _, _, _, _, rfl, hq, L3.out.base_le (Nat.le_of_lt hgw)⟩, (b0.trans (below_cur G3.out (Nat.le_refl _) (Nat.le_of_lt hgw)))⟩

/-- Among the first j pairs one is (a, b). -/
def thTo (l : List (List Int)) (a b : Int) (j : Nat) : Bool := (l.take j).any fun x => x.getD 0 0 == a && x.getD 1 0 == b
theorem thTo_next {l : List (List Int)} {a b : Int} {j : Nat} {x y : Int} (h : l[j]? = some [x, y]) : thTo l a b (j + 1) = (thTo l a b j || (x == a && y == b)) := by
  unfold thTo; rw [List.take_add_one, h, List.any_append]; simp
theorem th_all {l : List TS} {a b : Int} {i k : Nat} (hok : asked l = true) (ha : (openR l)[i]? = some a) (hb : (openR l)[k]? = some b) (hik : i < k) : thTo (movR l) a b (movR l).length = true := by
  have e1 : openR l = openL l := by simp [openR, hok]
  rw [e1] at ha hb
  have hm : [a, b] ∈ movL l := by
    rw [← raw_mov]
    unfold rawL
    rw [rawTo_mem]
    obtain ⟨hi, ei⟩ := List.getElem?_eq_some_iff.1 ha
    obtain ⟨hk, ek⟩ := List.getElem?_eq_some_iff.1 hb
    have hlt := List.pairwise_iff_getElem.1 (open_rise l).1 i k hi hk hik
    rw [ei, ek] at hlt
    exact ⟨l.length, by omega, a, b, hlt, by rw [List.take_length]; exact List.mem_of_getElem? ha, by rw [List.take_length]; exact List.mem_of_getElem? hb, rfl⟩
  rw [movR_yes hok]
  unfold thTo
  rw [List.take_length, List.any_eq_true]
  exact ⟨[a, b], hm, by simp⟩
theorem mov_pair {l : List TS} {x : List Int} (h : x ∈ movR l) : ∃ a b, x = [a, b] := by
  unfold movR at h
  split at h
  · obtain ⟨s, t, _, _, _, _, rfl⟩ := movTo2_mem.1 h; exact ⟨_, _, rfl⟩
  · cases h
theorem outR_4 (l : List TS) : (outR l).length ≤ 4 := by
  unfold outR cnts
  split <;> simp
theorem outR_bd {l : List TS} (hok : asked l = true) : ∀ x ∈ outR l, 0 ≤ x ∧ x ≤ 1000 := fun x hx => by
  have hl := asked_len hok
  have ho := openL_20 l
  have h5 := cntK_bd l 5
  have h6 := cntK_bd l 6
  have h7 := cntK_bd l 7
  unfold outR at hx
  rw [if_pos hok] at hx
  unfold cnts at hx
  simp only [List.mem_cons, List.not_mem_nil, or_false] at hx
  rcases hx with rfl | rfl | rfl | rfl <;> omega

end Go.Proofs.Ytmmogpbbehgkiaa
