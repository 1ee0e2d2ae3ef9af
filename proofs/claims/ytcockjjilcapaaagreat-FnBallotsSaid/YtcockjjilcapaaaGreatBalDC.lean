/-
  YtcockjjilcapaaaGreatBalDC: ballots: what is drawn for the great law on counts. (Printed by wip/gen/zbal.py.)
-/
import Derived.Test.YtcockjjilcapaaaGreatBalDB
import Derived.Test.YtcockjjilcapaaaGreatBalX
import Derived.Test.YtcockjjilcapaaaGreatBalS
import Derived.Test.YtcockjjilcapaaaGreatBalH
import Derived.Test.YtcockjjilcapaaaGreatVee
namespace Go.Proofs.YtcockjjilcapaaaGreat
open Go Go.RowKit Go.Sort
set_option linter.unusedVariables false

theorem sum_bd : ∀ l : List Int, (∀ x ∈ l, 0 ≤ x ∧ x ≤ 1000) → 0 ≤ l.sum ∧ l.sum ≤ 1000 * (l.length : Int)
  | [], _ => by simp
  | x :: l, h => by
    have h1 := sum_bd l fun y hy => h y (List.mem_cons_of_mem _ hy)
    have h2 := h x List.mem_cons_self
    rw [List.sum_cons, List.length_cons]
    omega
theorem sum_next {l : List Int} {k : Nat} {x : Int} (h : l[k]? = some x) : (l.take (k + 1)).sum = (l.take k).sum + x := by
  rw [List.take_add_one, h, List.sum_append]; simp
set_option maxRecDepth 100000 in
set_option maxHeartbeats 1000000 in
theorem rSum_any (A : Option Addr) (n c : Nat) (l : List Int) (w : World) (ha : Rd inV 1 w A n c l) (hb : ∀ x ∈ l, 0 ≤ x ∧ x ≤ 1000) (hn : n ≤ 1048576) :
    Calls Tryz.prog 15 #[.slice A n c] w fun e w' => e = .returned (.int .i64 l.sum) ∧ w = w' := by
  have HL := Lib.hid ha.len
  have HB := Lib.hid hb
  clear hb
  go_enter Tryz.func15, Tryz.ntmps15
  go_wp2
  go_loop [3, 4] (fun s i => ∃ k : Nat, k ≤ n ∧ i = .int .i64 k ∧ s = .int .i64 (l.take k).sum) (fun _ i => n - (intOf i).toNat)
  case atStart => exact ⟨0, Nat.zero_le _, rfl, rfl⟩
  case round =>
    obtain ⟨k, hk, rfl, rfl⟩ := hrel
    have hbd := sum_bd (l.take k) fun x hx => HB.out x (List.mem_of_mem_take hx)
    have hlk : (l.take k).length ≤ k := List.length_take_le _ _
    by_cases hlt : k < n
    · obtain ⟨b1, o1, x, rfl, hs, c0⟩ := ha.in hlt
      have hx := HB.out x (List.mem_of_getElem? hs)
      have NX := Lib.hid (sum_next hs)
      clear hs ha
      generalize (l.take k).sum = s at *
      go_wp2
      go_round
      case rel => exact ⟨k + 1, by omega, by go_num, by rw [NX.out]⟩
      case measure => simp [intOf]; omega
    · obtain rfl : k = n := by omega
      have E : Hid ((l.take k).sum = l.sum) := by show _ = _; rw [List.take_of_length_le (by rw [HL.out]; exact Nat.le_refl _)]
      clear ha
      generalize (l.take k).sum = s at *
      go_wp2
      go_ret
      exact ⟨ret_int E.out, rfl⟩

set_option maxRecDepth 100000 in
set_option maxHeartbeats 2000000 in
theorem drawGood_any (A : Option Addr) (n c : Nat) (l : List Int) (w : World) (ha : Rd byV 1 w A n c l) (hb : ∀ x ∈ l, 0 ≤ x ∧ x ≤ 255) : Calls Tryz.prog 25 #[.slice A n c] w fun e w' => (∃ B q d l R m dr r, e = .returned (.tuple #[.slice B q d, .slice R m dr]) ∧ q ≤ 13 ∧ m ≤ 21 ∧ OwnB w' w.heap.size B q d l ∧ Own inV 1 w' w.heap.size 3 R m dr r) ∧ Below w.heap.size w w' := by
  have C0 := Lib.hid (Cur.start ha hb)
  have b0 := below_alloc (w := w) (.cells #[.slice A n c, .int .i64 0, .int .u64 0] 67)
  have hgw : w.heap.size < (w.alloc (.cells #[.slice A n c, .int .i64 0, .int .u64 0] 67)).heap.size := by simp
  go_enter Tryz.func25, Tryz.ntmps25
  go_wp2_with fail
  generalize hw0 : w.alloc (.cells #[.slice A n c, .int .i64 0, .int .u64 0] 67) = w0 at *
  clear hw0
  refine (box_any w.heap.size 0 _ C0.out (by omega)).mono ?_
  rintro e w1 ⟨⟨B, q, d, lp, rfl, hq, o1⟩, hc, hg⟩
  have C1 := Lib.hid hc
  have G1 := Lib.hid hg
  have L1 := Lib.hid o1
  clear hc hg o1 C0
  go_wp2_with fail
  refine (roll_any w.heap.size 300 _ (C1.out.le (by omega)) (by omega)).mono ?_
  rintro e w2 ⟨⟨R, m, dr, r, rfl, hm, o2⟩, hc, hg⟩
  have G2 := Lib.hid (grown_trans G1.out hg)
  have L2 := Lib.hid (L1.out.cur hg hgw)
  have hw1 : w.heap.size ≤ w1.heap.size := Nat.le_trans (Nat.le_of_lt hgw) G1.out.size
  have R2 := Lib.hid (o2.base_le (b := w.heap.size) hw1)
  clear hc hg o2 C1 G1 L1
  go_wp2
  go_ret2
  exact ⟨⟨_, _, _, _, _, _, _, _, rfl, hq, hm, L2.out.base_le (Nat.le_of_lt hgw), R2.out⟩, (b0.trans (below_cur G2.out (Nat.le_refl _) (Nat.le_of_lt hgw)))⟩

set_option maxRecDepth 100000 in
set_option maxHeartbeats 2000000 in
theorem drawCount_any (A : Option Addr) (n c : Nat) (l : List Int) (w : World) (ha : Rd byV 1 w A n c l) (hb : ∀ x ∈ l, 0 ≤ x ∧ x ≤ 255) : Calls Tryz.prog 5 #[.slice A n c] w fun e w' => (∃ B q d l R m dr r, e = .returned (.tuple #[.slice B q d, .slice R m dr]) ∧ q ≤ 13 ∧ m ≤ 21 ∧ OwnB w' w.heap.size B q d l ∧ Own inV 1 w' w.heap.size 3 R m dr r) ∧ Below w.heap.size w w' := by
  go_enter Tryz.func5, Tryz.ntmps5
  go_wp2_with fail
  refine (drawGood_any _ _ _ _ _ ha hb).mono ?_
  rintro e w1 ⟨⟨B, q, d, lp, R, m, dr, r, rfl, hq, hm, o1, o2⟩, b1⟩
  have O1 := Lib.hid o1
  have O2 := Lib.hid o2
  clear o1 o2
  go_wp2
  go_ret2
  exact ⟨⟨_, _, _, _, _, _, _, _, rfl, hq, hm, O1.out, O2.out⟩, b1⟩

set_option maxRecDepth 100000 in
set_option maxHeartbeats 2000000 in
theorem drawIsBox_any (A : Option Addr) (n c : Nat) (l : List Int) (w : World) (ha : Rd byV 1 w A n c l) (hb : ∀ x ∈ l, 0 ≤ x ∧ x ≤ 255) : Calls Tryz.prog 48 #[.slice A n c] w fun e w' => (∃ B q d l, e = .returned (.slice B q d) ∧ q ≤ 13 ∧ OwnB w' w.heap.size B q d l) ∧ Below w.heap.size w w' := by
  have C0 := Lib.hid (Cur.start ha hb)
  have b0 := below_alloc (w := w) (.cells #[.slice A n c, .int .i64 0, .int .u64 0] 67)
  have hgw : w.heap.size < (w.alloc (.cells #[.slice A n c, .int .i64 0, .int .u64 0] 67)).heap.size := by simp
  go_enter Tryz.func48, Tryz.ntmps48
  go_wp2_with fail
  generalize hw0 : w.alloc (.cells #[.slice A n c, .int .i64 0, .int .u64 0] 67) = w0 at *
  clear hw0
  refine (box_any w.heap.size 0 _ C0.out (by omega)).mono ?_
  rintro e w1 ⟨⟨B, q, d, lp, rfl, hq, o1⟩, hc, hg⟩
  have C1 := Lib.hid hc
  have G1 := Lib.hid hg
  have L1 := Lib.hid o1
  clear hc hg o1 C0
  go_wp2
  go_ret
  exact ⟨⟨_, _, _, _, rfl, hq, L1.out.base_le (Nat.le_of_lt hgw)⟩, (b0.trans (below_cur G1.out (Nat.le_refl _) (Nat.le_of_lt hgw)))⟩

set_option maxRecDepth 100000 in
set_option maxHeartbeats 2000000 in
theorem drawSort_any (A : Option Addr) (n c : Nat) (l : List Int) (w : World) (ha : Rd byV 1 w A n c l) (hb : ∀ x ∈ l, 0 ≤ x ∧ x ≤ 255) : Calls Tryz.prog 21 #[.slice A n c] w fun e w' => (∃ B q d l, e = .returned (.slice B q d) ∧ q ≤ 13 ∧ OwnB w' w.heap.size B q d l) ∧ Below w.heap.size w w' := by
  go_enter Tryz.func21, Tryz.ntmps21
  go_wp2_with fail
  refine (drawIsBox_any _ _ _ _ _ ha hb).mono ?_
  rintro e w1 ⟨⟨B, q, d, lp, rfl, hq, o1⟩, b1⟩
  have O1 := Lib.hid o1
  clear o1
  go_wp2
  go_ret
  exact ⟨⟨_, _, _, _, rfl, hq, O1.out⟩, b1⟩

theorem sum_nn : ∀ l : List Int, (∀ y ∈ l, 0 ≤ y) → 0 ≤ l.sum
  | [], _ => by simp
  | x :: l, h => by
    have h1 := sum_nn l fun y hy => h y (List.mem_cons_of_mem _ hy)
    have h2 := h x List.mem_cons_self
    rw [List.sum_cons]; omega
theorem mem_sum : ∀ {l : List Int} {x : Int}, (∀ y ∈ l, 0 ≤ y) → x ∈ l → x ≤ l.sum
  | z :: l, x, h, hx => by
    have h1 := sum_nn l fun y hy => h y (List.mem_cons_of_mem _ hy)
    have h2 := h z List.mem_cons_self
    rw [List.sum_cons]
    rcases List.mem_cons.1 hx with rfl | hx
    · omega
    · have h3 := mem_sum (fun y hy => h y (List.mem_cons_of_mem _ hy)) hx
      omega
theorem cou_nn {l : List BA} {r : List Int} : ∀ x ∈ (couL l r).map Prod.snd, 0 ≤ x := fun x hx => by
  obtain ⟨p, hp, rfl⟩ := List.mem_map.1 hx
  unfold couL at hp
  split at hp
  · have := ((cnt_spec _).2.1 p hp).1; omega
  · cases hp
theorem bla_nn (l : List BA) (r : List Int) : 0 ≤ blaN l r := by unfold blaN; split <;> omega
theorem cou_bd {l : List BA} {r : List Int} (hp : pollB l r = true) (hl : l.length ≤ 1000) : ∀ x ∈ (couL l r).map Prod.snd, 0 ≤ x ∧ x ≤ 1000 := fun x hx => by
  have h1 := cou_sum hp
  have h2 := bla_nn l r
  have h3 := gooL_len l r
  have h4 := mem_sum cou_nn hx
  exact ⟨cou_nn x hx, by omega⟩
theorem good_out2 {l : List BA} {r : List Int} {k : Nat} {g : Int} (h : (gooL l r)[k]? = some g) :
    ∃ (i : Nat) (x : BA), g = (i : Int) ∧ l[i]? = some x ∧ decide (x.code ∈ strL l r) = false ∧ decide (x.code ∈ unuL l r) = false := by
  cases hp : pollB l r
  · simp [gooL, hp] at h
  · obtain ⟨i, x, h1, h2, h3, h4⟩ := good_out hp h
    exact ⟨i, x, h1, h2, decide_eq_false h3, decide_eq_false h4⟩
theorem srt_perm {l : List BA} (h : boxB l = true) : (srtL l).Perm l := by unfold srtL; rw [if_pos h]; exact sortB_perm l

end Go.Proofs.YtcockjjilcapaaaGreat
