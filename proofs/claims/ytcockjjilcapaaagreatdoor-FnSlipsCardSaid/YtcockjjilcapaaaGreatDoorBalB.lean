/-
  YtcockjjilcapaaaGreatDoorBalB: ballots: polls, the codes of a box, numbers deleted: by contracts. (Printed by wip/gen/balb.py.)
-/
import Derived.Test.YtcockjjilcapaaaGreatDoorBalA
import Derived.Test.YtcockjjilcapaaaGreatDoorRise
import Derived.Test.YtcockjjilcapaaaGreatDoorShelf
import Derived.Test.YtcockjjilcapaaaGreatDoorShelfD
import Derived.Lib.OwnBridge
namespace Go.Proofs.YtcockjjilcapaaaGreatDoor
open Go Go.RowKit Go.Sort
set_option linter.unusedVariables false

/-- A box and a roll that may be asked. -/
def pollB (l : List BA) (r : List Int) : Bool := boxB l && (decide (r.length ≤ 20) && risB r 1 9999)
theorem poll_box {l : List BA} {r : List Int} (h : pollB l r = true) : boxB l = true ∧ r.length ≤ 20 := by
  unfold pollB at h
  simp only [Bool.and_eq_true, decide_eq_true_eq] at h
  exact ⟨h.1, h.2.1⟩


set_option maxRecDepth 100000 in
theorem isPoll_any (A : Option Addr) (n c : Nat) (l : List BA) (B : Option Addr) (m d : Nat) (r : List Int) (w : World) (ha : Rd baV 2 w A n c l) (hb : Rd inV 1 w B m d r) (hg : ∀ x ∈ l, BaSz x) :
    Calls Tryz.prog 28 #[.slice A n c, .slice B m d] w fun e w' => e = .returned (.bool (pollB l r)) ∧ Below w.heap.size w w' := by
  have hm := hb.le
  have HL := Lib.hid hb.len
  go_enter Tryz.func28, Tryz.ntmps28
  go_wp2_with fail
  refine (IsBox_any _ _ _ _ _ ha hg).mono ?_
  rintro e w1 ⟨rfl, b1⟩
  cases h1 : boxB l
  · have E := Lib.hid (show pollB l r = false by unfold pollB; rw [h1]; rfl)
    clear ha hb
    go_wp2
    go_ret
    exact ⟨ret_bool E.out.symm, b1⟩
  by_cases h2 : (m : Int) ≤ 20
  rotate_left
  · have E := Lib.hid (show pollB l r = false by unfold pollB; rw [HL.out, decide_eq_false (by omega)]; simp)
    clear ha hb
    go_wp2
    go_ret
    exact ⟨ret_bool E.out.symm, b1⟩
  have E := Lib.hid (show pollB l r = risB r 1 9999 by unfold pollB; rw [HL.out, h1, decide_eq_true (by omega)]; rfl)
  have hr := hb.below b1
  clear ha hb h1
  go_wp2_with fail
  refine (ascending_any _ _ _ r _ _ _ hr).mono ?_
  rintro e w2 ⟨rfl, rfl⟩
  go_wp2
  go_ret
  exact ⟨ret_bool E.out.symm, b1⟩


set_option maxRecDepth 100000 in
theorem l20Asked_any (A : Option Addr) (n c : Nat) (l : List BA) (B : Option Addr) (m d : Nat) (r : List Int) (w : World) (ha : Rd baV 2 w A n c l) (hb : Rd inV 1 w B m d r) (hg : ∀ x ∈ l, BaSz x) :
    Calls Tryz.prog 31 #[.slice A n c, .slice B m d] w fun e w' => e = .returned (.bool (pollB l r)) ∧ Below w.heap.size w w' := by
  have hm := hb.le
  have HL := Lib.hid hb.len
  go_enter Tryz.func31, Tryz.ntmps31
  go_wp2_with fail
  refine (l20Box_any _ _ _ _ _ ha hg).mono ?_
  rintro e w1 ⟨rfl, b1⟩
  cases h1 : boxB l
  · have E := Lib.hid (show pollB l r = false by unfold pollB; rw [h1]; rfl)
    clear ha hb
    go_wp2
    go_ret
    exact ⟨ret_bool E.out.symm, b1⟩
  by_cases h2 : (m : Int) ≤ 20
  rotate_left
  · have E := Lib.hid (show pollB l r = false by unfold pollB; rw [HL.out, decide_eq_false (by omega)]; simp)
    clear ha hb
    go_wp2
    go_ret
    exact ⟨ret_bool E.out.symm, b1⟩
  have E := Lib.hid (show pollB l r = risB r 1 9999 by unfold pollB; rw [HL.out, h1, decide_eq_true (by omega)]; rfl)
  have hr := hb.below b1
  clear ha hb h1
  go_wp2_with fail
  refine (l1Rising_any _ _ _ r _ _ _ hr).mono ?_
  rintro e w2 ⟨rfl, b2⟩
  go_wp2
  go_ret
  exact ⟨ret_bool E.out.symm, below_trans b1 b2⟩


theorem one_int' : ∀ x : Int, ∀ u ∈ inV x, u.oneCell' = true := by intro x u h; simp [inV] at h; subst h; rfl
/-- A copy in new memory. -/
theorem copyInts_any (A : Option Addr) (n c : Nat) (r : List Int) (w : World) (ha : Rd inV 1 w A n c r) (hn : n ≤ 1048576) :
    Calls Tryz.prog 115 #[.slice A n c] w fun e w' => (∃ B d, e = .returned (.slice B n d) ∧ Own inV 1 w' w.heap.size 3 B n d r) ∧ Below w.heap.size w w' := by
  obtain ⟨i0, hi, hz0, hz1, hz2⟩ := info_parts Tryz.infoIn'
  go_enter Tryz.func115, Tryz.ntmps115
  go_wp2_with ((
     at_builtin
     refine wpList_pushAll rfl _ _ _ rfl w.heap.size 3 i0 (.int .i64 0) 1 8 Tryz.underlying33 hi hz0 hz1 hz2 rfl (by omega) inV inV_len one_int' _ 0 0 [] rfl (Own.empty inV 1 _ 3) _ n c r rfl (ha.alloc _) (by simp only [maxLen]; omega) (by omega) (by first | simp; done | (simp; omega)) ?_
     intro B1 d1 w1 o1 g1
     simp only [Nat.zero_add, List.nil_append] at o1
     have b1 : Below w.heap.size w w1 := (below_alloc _).grown g1 (by simp) (fun k hk => by simp [blockOf] at hk; omega)))
  go_ret
  exact ⟨⟨_, _, rfl, o1⟩, b1⟩

theorem idxNil_any (A : Option Addr) (c : Nat) (v : Value) (w : World) : Calls Tryz.prog 132 #[.slice A 0 c, v] w fun e w' => e = .returned (.int .i64 (-1)) ∧ w = w' := by
  go_enter Tryz.func132, Tryz.ntmps132
  go_wp2
  go_loop [8] (fun i => i = .int .i64 0) (fun _ => 0)
  case atStart => rfl
  case round =>
    subst hrel
    go_wp2
    go_ret
    exact ⟨rfl, rfl⟩
theorem delNil_any (A : Option Addr) (c : Nat) (v : Value) (w : World) : Calls Tryz.prog 114 #[.slice A 0 c, v] w fun e w' => e = .returned (.slice A 0 c) ∧ w = w' := by
  go_enter Tryz.func114, Tryz.ntmps114
  go_wp2_with fail
  refine (idxNil_any _ _ _ _).mono ?_
  rintro e w1 ⟨rfl, rfl⟩
  go_wp2
  go_ret
  exact ⟨rfl, rfl⟩

theorem flat_inV (l : List Int) : l.flatMap inV = l.map (Value.int .i64) := by
  induction l with
  | nil => rfl
  | cons x t ih => rw [List.flatMap_cons, ih]; rfl
theorem below_sort {B g q : Nat} {w0 w : World} {d : Array Int} {os : Array Obj} (h : Below B w0 w) (hB : B ≤ w0.heap.size) (hg : B ≤ g) : Below B w0 (sortWorld (Value.int .i64) w g 0 q d os) := by
  have h1 := Lib.below_putRow (enc := Value.int .i64) (q := q) (d := d) h hg
  unfold sortWorld
  refine h1.trans ((?_ : Below (putRow (Value.int .i64) (Sort.ahead w q) g 0 d).heap.size _ _).mono (Nat.le_trans hB h1.size))
  exact below_grown _ 0 os
/-- slices.DeleteFunc on numbers that the call owns; the closure reads below block B alone. -/
theorem del_any (A : Option Addr) (n c base B g : Nat) (l : List Int) (lb : Array Value) (q : Int → Bool) (w0 w : World) (ho : Own inV 1 w base 3 A n c l) (hB : B ≤ base) (hB0 : B ≤ w0.heap.size) (hw : Below B w0 w)
    (eg : ∀ args w, (callFunc g args).run Tryz.prog w = .ok (.enter g args) w) (hq : ∀ (W : World) (x : Int), Below B w0 W → FnGives Tryz.prog g lb #[.int .i64 x] (.bool (q x)) W) :
    Calls Tryz.prog 114 #[.slice A n c, .func (.func g) #[] lb] w fun e w' => (∃ k, e = .returned (.slice A k c) ∧ Own inV 1 w' base 3 A k c (l.filter fun x => !q x)) ∧ Below B w0 w' := by
  have hlen := ho.len
  cases A with
  | none =>
    have hn0 : n = 0 := by
      rcases ho.row.2 with ⟨_, h⟩ | ⟨_, _, _, h, _⟩
      · exact h
      · cases h
    subst hn0
    have hl : l = [] := List.eq_nil_of_length_eq_zero hlen
    subst hl
    refine (delNil_any none c _ w).mono ?_
    rintro e w' ⟨rfl, rfl⟩
    exact ⟨⟨0, rfl, ho⟩, hw⟩
  | some a =>
    have hrow := ho.row
    rw [flat_inV] at hrow
    obtain ⟨g1, cap, hv, hb1, hlt, hnc, hcm, hl, hH⟩ := Lib.holds_of_ownsRow (enc := Value.int .i64) hrow (by intro h; cases h)
    injection hv with h1 h2 h3
    subst h3
    injection h1 with h1
    subst h1
    have hsz : (l.toArray).size = n := by simpa using hl
    have hnm : n ≤ 9223372036854775807 := by unfold maxLen at hcm; omega
    have hpo : PredOver Tryz.prog g lb (Value.int .i64) q g1 0 (l.toArray).size w := fun m os dk x _ => hq _ x (below_sort hw hB0 (Nat.le_trans hB hb1))
    have hp : PredAt Tryz.prog g lb (Value.int .i64) q w := fun W x hb => hq W x (hw.trans (hb.mono (Nat.le_trans hB0 hw.size)))
    have hcon := AnyE.slices_DeleteFunc Tryz.laysDel (Value.int .i64) (fun _ => rfl) q g lb eg 0 Tryz.zeroValue3 g1 0 c l.toArray w hp hpo hH (by rw [hsz]; exact hnm) (by rw [hsz]; exact hnc)
    change Calls Tryz.prog 114 _ _ _ at hcon
    rw [hsz] at hcon
    refine hcon.mono ?_
    rintro e w' ⟨rfl, k, rfl⟩
    have hfl : (l.filter fun x => !q x).length ≤ n := by rw [← hl]; exact List.length_filter_le _ _
    have hr := Lib.ownsRow_putRow (enc := Value.int .i64) (q := k) (k := (l.filter fun x => !q x).length) (ys := (l.filter fun x => !q x) ++ List.replicate (n - (l.filter fun x => !q x).length) 0) hrow (by simp; omega) hfl
    refine ⟨⟨_, rfl, rfl, ?_⟩, Lib.below_putRow hw (Nat.le_trans hB hb1)⟩
    rw [flat_inV]
    rw [List.take_left] at hr
    exact hr


theorem isN_any (x m : Int) (q : Nat) (w : World) (hq : w.cell? ⟨q, 0, none⟩ = some (.int .i64 m)) : FnGives Tryz.prog 116 #[.pointer (some ⟨q, 0, none⟩)] #[.int .i64 x] (.bool (x == m)) w := by
  show Calls Tryz.prog 116 #[.int .i64 x, .pointer (some ⟨q, 0, none⟩)] w _
  go_enter Tryz.func116, Tryz.ntmps116
  go_wp2
  go_ret
  exact ⟨rfl, 0, rfl⟩
/-- without(list, m): the list without m, in new memory. -/
theorem without_any (A : Option Addr) (n c : Nat) (r : List Int) (m : Int) (w : World) (ha : Rd inV 1 w A n c r) (hn : n ≤ 1048576) :
    Calls Tryz.prog 100 #[.slice A n c, .int .i64 m] w fun e w' => (∃ B k d, e = .returned (.slice B k d) ∧ Own inV 1 w' w.heap.size 3 B k d (r.filter fun x => !(x == m))) ∧ Below w.heap.size w w' := by
  have b0 := below_alloc (w := w) (.cells #[.int .i64 m] 3)
  have q0 : (w.alloc (.cells #[.int .i64 m] 3)).cell? ⟨w.heap.size, 0, none⟩ = some (.int .i64 m) := cell_of_row _ _ 0 _ _ _ (heap_new rfl)
  have eg : ∀ args w, (callFunc 116 args).run Tryz.prog w = .ok (.enter 116 args) w := enters_of Tryz.func116 (by kernel_rfl) rfl
  go_enter Tryz.func100, Tryz.ntmps100
  go_wp2_with fail
  generalize hw0 : w.alloc (.cells #[.int .i64 m] 3) = w0 at *
  clear hw0
  refine (copyInts_any _ _ _ r _ (ha.below b0) hn).mono ?_
  rintro e w1 ⟨⟨B, d, rfl, o1⟩, b1⟩
  go_wp2_with fail
  refine (del_any B n d w0.heap.size w0.heap.size 116 r _ (fun x => x == m) w0 _ o1 (Nat.le_refl _) (Nat.le_refl _) b1 eg (fun W x hb => isN_any x m w.heap.size W (cell_below hb q0))).mono ?_
  rintro e w2 ⟨⟨k, rfl, o2⟩, b2⟩
  go_wp2
  go_ret
  exact ⟨⟨_, _, _, rfl, o2.base_le b0.size⟩, below_trans b0 b2⟩


end Go.Proofs.YtcockjjilcapaaaGreatDoor
