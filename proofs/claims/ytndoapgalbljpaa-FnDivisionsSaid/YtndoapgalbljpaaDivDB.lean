/-
  YtndoapgalbljpaaDivDB: clauses: what is drawn for the great law on divisions; tables and lists of clauses in the law file. (Printed by wip/gen/zdiv.py.)
-/
import Derived.Test.YtndoapgalbljpaaDivDA
import Derived.Test.YtndoapgalbljpaaVee
import Derived.Lib.QuietBelow
namespace Go.Proofs.Ytndoapgalbljpaa
open Go Go.RowKit Go.Sort
set_option linter.unusedVariables false

set_option maxRecDepth 100000 in
set_option maxHeartbeats 2000000 in
theorem drawAre_any (A : Option Addr) (n c : Nat) (l : List Int) (w : World) (ha : Rd byV 1 w A n c l) (hb : ∀ x ∈ l, 0 ≤ x ∧ x ≤ 255) : Calls Try.prog 45 #[.slice A n c] w fun e w' => (∃ B q d hs l, e = .returned (.slice B q d) ∧ q ≤ 16 ∧ OwnC w' w.heap.size w'.heap.size B q d hs l ∧ GC l) ∧ Below w.heap.size w w' := by
  have C0 := Lib.hid (Cur.start ha hb)
  have b0 := below_alloc (w := w) (.cells #[.slice A n c, .int .i64 0, .int .u64 0] 77)
  have hgw : w.heap.size < (w.alloc (.cells #[.slice A n c, .int .i64 0, .int .u64 0] 77)).heap.size := by simp
  go_enter Try.func45, Try.ntmps45
  go_wp2_with fail
  generalize hw0 : w.alloc (.cells #[.slice A n c, .int .i64 0, .int .u64 0] 77) = w0 at *
  clear hw0
  refine (clauses_any w.heap.size 0 _ C0.out (by omega)).mono ?_
  rintro e w1 ⟨⟨B, q, d, hs, lp, rfl, hq, o1, hgl⟩, hc, hg⟩
  have C1 := Lib.hid hc
  have G1 := Lib.hid hg
  have L1 := Lib.hid o1
  have GL := Lib.hid hgl
  clear hc hg o1 C0 hgl
  go_wp2
  go_ret
  exact ⟨⟨_, _, _, _, _, rfl, hq, L1.out.base_le (Nat.le_of_lt hgw), GL.out⟩, (b0.trans (below_cur G1.out (Nat.le_refl _) (Nat.le_of_lt hgw)))⟩

set_option maxRecDepth 100000 in
set_option maxHeartbeats 2000000 in
theorem drawSep_any (A : Option Addr) (n c : Nat) (l : List Int) (w : World) (ha : Rd byV 1 w A n c l) (hb : ∀ x ∈ l, 0 ≤ x ∧ x ≤ 255) : Calls Try.prog 13 #[.slice A n c] w fun e w' => (∃ B q d hs l, e = .returned (.slice B q d) ∧ q ≤ 16 ∧ OwnC w' w.heap.size w'.heap.size B q d hs l ∧ GC l) ∧ Below w.heap.size w w' := by
  go_enter Try.func13, Try.ntmps13
  go_wp2_with fail
  refine (drawAre_any _ _ _ _ _ ha hb).mono ?_
  rintro e w1 ⟨⟨B, q, d, hs, lp, rfl, hq, o1, hgl⟩, b1⟩
  have O1 := Lib.hid o1
  have GL := Lib.hid hgl
  clear o1 hgl
  go_wp2
  go_ret
  exact ⟨⟨_, _, _, _, _, rfl, hq, O1.out, GL.out⟩, b1⟩

set_option maxRecDepth 100000 in
set_option maxHeartbeats 2000000 in
theorem drawDear_any (A : Option Addr) (n c : Nat) (l : List Int) (w : World) (ha : Rd byV 1 w A n c l) (hb : ∀ x ∈ l, 0 ≤ x ∧ x ≤ 255) : Calls Try.prog 24 #[.slice A n c] w fun e w' => (∃ B q d hs l, e = .returned (.slice B q d) ∧ q ≤ 16 ∧ OwnC w' w.heap.size w'.heap.size B q d hs l ∧ GC l) ∧ Below w.heap.size w w' := by
  go_enter Try.func24, Try.ntmps24
  go_wp2_with fail
  refine (drawAre_any _ _ _ _ _ ha hb).mono ?_
  rintro e w1 ⟨⟨B, q, d, hs, lp, rfl, hq, o1, hgl⟩, b1⟩
  have O1 := Lib.hid o1
  have GL := Lib.hid hgl
  clear o1 hgl
  go_wp2
  go_ret
  exact ⟨⟨_, _, _, _, _, rfl, hq, O1.out, GL.out⟩, b1⟩

set_option maxRecDepth 100000 in
set_option maxHeartbeats 2000000 in
theorem drawDep_any (A : Option Addr) (n c : Nat) (l : List Int) (w : World) (ha : Rd byV 1 w A n c l) (hb : ∀ x ∈ l, 0 ≤ x ∧ x ≤ 255) : Calls Try.prog 27 #[.slice A n c] w fun e w' => (∃ B q d hs l i, e = .returned (.tuple #[.slice B q d, .int .i64 i]) ∧ q ≤ 16 ∧ OwnC w' w.heap.size w'.heap.size B q d hs l ∧ GC l) ∧ Below w.heap.size w w' := by
  have C0 := Lib.hid (Cur.start ha hb)
  have b0 := below_alloc (w := w) (.cells #[.slice A n c, .int .i64 0, .int .u64 0] 77)
  have hgw : w.heap.size < (w.alloc (.cells #[.slice A n c, .int .i64 0, .int .u64 0] 77)).heap.size := by simp
  go_enter Try.func27, Try.ntmps27
  go_wp2_with fail
  generalize hw0 : w.alloc (.cells #[.slice A n c, .int .i64 0, .int .u64 0] 77) = w0 at *
  clear hw0
  refine (clauses_any w.heap.size 0 _ C0.out (by omega)).mono ?_
  rintro e w1 ⟨⟨B, q, d, hs, lp, rfl, hq, o1, hgl⟩, hc, hg⟩
  have C1 := Lib.hid hc
  have G1 := Lib.hid hg
  have L1 := Lib.hid o1
  have GL := Lib.hid hgl
  clear hc hg o1 C0 hgl
  go_wp2_with fail
  refine (pick_any w.heap.size 600 _ _ (C1.out.le (by omega)) (by omega) (by omega) (by omega)).mono ?_
  rintro e w2 ⟨⟨x, rfl, x0, x1⟩, hc, hg⟩
  have C2 := Lib.hid hc
  have G2 := Lib.hid (grown_trans G1.out hg)
  have L2 := Lib.hid ((L1.out.cur hg hgw).top_le hg.size)
  clear hc hg C1 G1 L1
  go_wp2_with fail
  refine (pick_any w.heap.size 610 9 _ (C2.out.le (by omega)) (by omega) (by omega) (by omega)).mono ?_
  rintro e w3 ⟨⟨z, rfl, z0, z1⟩, hc, hg⟩
  have G3 := Lib.hid (grown_trans G2.out hg)
  have L3 := Lib.hid ((L2.out.cur hg hgw).top_le hg.size)
  clear hc hg C2 G2 L2
  go_wp2
  go_ret2
  exact ⟨⟨_, _, _, _, _, _, rfl, hq, L3.out.base_le (Nat.le_of_lt hgw), GL.out⟩, (b0.trans (below_cur G3.out (Nat.le_refl _) (Nat.le_of_lt hgw)))⟩

set_option maxRecDepth 100000 in
set_option maxHeartbeats 2000000 in
theorem drawJoin_any (A : Option Addr) (n c : Nat) (l : List Int) (w : World) (ha : Rd byV 1 w A n c l) (hb : ∀ x ∈ l, 0 ≤ x ∧ x ≤ 255) : Calls Try.prog 19 #[.slice A n c] w fun e w' => (∃ B q d hs l i, e = .returned (.tuple #[.slice B q d, .int .i64 i]) ∧ q ≤ 16 ∧ OwnC w' w.heap.size w'.heap.size B q d hs l ∧ GC l) ∧ Below w.heap.size w w' := by
  go_enter Try.func19, Try.ntmps19
  go_wp2_with fail
  refine (drawDep_any _ _ _ _ _ ha hb).mono ?_
  rintro e w1 ⟨⟨B, q, d, hs, lp, i, rfl, hq, o1, hgl⟩, b1⟩
  have O1 := Lib.hid o1
  have GL := Lib.hid hgl
  clear o1 hgl
  go_wp2
  go_ret2
  exact ⟨⟨_, _, _, _, _, _, rfl, hq, O1.out, GL.out⟩, b1⟩

set_option maxRecDepth 100000 in
set_option maxHeartbeats 1000000 in
theorem vTable_same (A B : Option Addr) (n m c d : Nat) (hs ks : List HI) (l : List (List Int)) (w : World) (ha : RdI w A n c hs l) (hb : RdI w B m d ks l) :
    Calls Try.prog 16 #[.slice A n c, .slice B m d] w fun e w' => e = .returned (.bool true) ∧ Below w.heap.size w w' := by
  have hm := ha.le
  obtain rfl : n = m := ha.len.symm.trans hb.len
  go_enter Try.func16, Try.ntmps16
  go_wp2
  go_loopw [5] (fun i wr => ∃ k : Nat, k ≤ n ∧ i = .int .i64 k ∧ Below w.heap.size w wr) (fun i _ => n - (intOf i).toNat)
  case atStart => exact ⟨0, Nat.zero_le _, rfl, Below.refl _ _⟩
  case round =>
    obtain ⟨k, hk, rfl, hbw⟩ := hrel
    by_cases hlt : k < n
    · obtain ⟨b1, o1, h, x, rfl, hx, -, c0, x0⟩ := (ha.below hbw).at hlt
      obtain ⟨b2, o2, h', x', rfl, hx', -, d0, y0⟩ := (hb.below hbw).at hlt
      obtain rfl : x = x' := by rw [hx] at hx'; injection hx'
      clear hx hx' ha hb
      have k0 := cell_regrown c0
      have q0 := cell_regrown d0
      go_wp2
      refine wp_region_quiet_below (by kernel_rfl) (by kernel_rfl) ?_
      repeat (go_big_quiet_step ((go_at_call 29; exact Calls.regrown_of (vInts_same _ _ _ _ _ _ _ _ (x0.below (below_regrown _ _ _)) (y0.below (below_regrown _ _ _))))))
      refine wpQuiet_nil ?_
      intro _ hw'
      obtain ⟨⟨dq, osq⟩, hw''⟩ := hw'
      subst hw''
      go_wp2
      go_roundw
      case rel => exact ⟨k + 1, by omega, by go_num, below_grow hbw _ _⟩
      case measure => simp [intOf]; omega
    · go_wp2
      go_ret
      exact ⟨rfl, hbw⟩

set_option maxRecDepth 100000 in
set_option maxHeartbeats 2000000 in
theorem vClauses_same (A B : Option Addr) (n m c d : Nat) (hs ks : List HC) (l : List CL) (w : World) (ha : RdC w A n c hs l) (hb : RdC w B m d ks l) :
    Calls Try.prog 20 #[.slice A n c, .slice B m d] w fun e w' => e = .returned (.bool true) ∧ Below w.heap.size w w' := by
  have hm := ha.le
  obtain rfl : n = m := ha.len.symm.trans hb.len
  go_enter Try.func20, Try.ntmps20
  go_wp2
  go_loopw [5] (fun i wr => ∃ k : Nat, k ≤ n ∧ i = .int .i64 k ∧ Below w.heap.size w wr) (fun i _ => n - (intOf i).toNat)
  case atStart => exact ⟨0, Nat.zero_le _, rfl, Below.refl _ _⟩
  case round =>
    obtain ⟨k, hk, rfl, hbw⟩ := hrel
    by_cases hlt : k < n
    · obtain ⟨b1, o1, h, x, rfl, hx, -, c0, c1, x0, x1⟩ := (ha.below hbw).at hlt
      obtain ⟨b2, o2, h', x', rfl, hx', -, d0, d1, y0, y1⟩ := (hb.below hbw).at hlt
      obtain rfl : x = x' := by rw [hx] at hx'; injection hx'
      clear hx hx' ha hb
      have k0 := cell_regrown c0
      have q0 := cell_regrown d0
      have k1 := cell_regrown c1
      have q1 := cell_regrown d1
      go_wp2
      refine wp_region_quiet_below (by kernel_rfl) (by kernel_rfl) ?_
      repeat (go_big_quiet_step ((first
        | (go_at_call 22; exact Calls.regrown_of (vTexts_same _ _ _ _ _ _ _ _ (x0.below (below_regrown _ _ _)) (y0.below (below_regrown _ _ _))))
        | (go_at_call 29; exact Calls.regrown_of (vInts_same _ _ _ _ _ _ _ _ (x1.below (below_regrown _ _ _)) (y1.below (below_regrown _ _ _)))))))
      refine wpQuiet_nil ?_
      intro _ hw'
      obtain ⟨⟨dq, osq⟩, hw''⟩ := hw'
      subst hw''
      go_wp2
      go_roundw
      case rel => exact ⟨k + 1, by omega, by go_num, below_grow hbw _ _⟩
      case measure => simp [intOf]; omega
    · go_wp2
      go_ret
      exact ⟨rfl, hbw⟩
theorem vHas_yes (A : Option Addr) (n c : Nat) (l : List Int) (x : Int) (w : World) (ha : Rd inV 1 w A n c l) (hx : x ∈ l) :
    Calls Try.prog 18 #[.slice A n c, .int .i64 x] w fun e w' => e = .returned (.bool true) ∧ Below w.heap.size w w' := by
  refine (vHas_any A n c l x w ha).mono ?_
  rintro e w' ⟨rfl, rfl⟩
  exact ⟨by rw [decide_eq_true hx], Below.refl _ _⟩

end Go.Proofs.Ytndoapgalbljpaa
