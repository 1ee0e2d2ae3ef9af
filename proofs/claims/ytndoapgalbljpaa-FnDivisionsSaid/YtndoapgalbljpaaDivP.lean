/-
  YtndoapgalbljpaaDivP: numbers without one, sorted and compacted in their place: by contracts. (Printed by wip/gen/divp.py.)
-/
import Derived.Test.YtndoapgalbljpaaJoiM
import Derived.Test.YtndoapgalbljpaaShelf
import Derived.Test.YtndoapgalbljpaaShelfD
import Derived.Lib.OwnBridge
import Derived.Sort.OwnSorted
import Derived.Sort.OwnSortedInts
namespace Go.Proofs.Ytndoapgalbljpaa
open Go Go.RowKit Go.Sort
set_option linter.unusedVariables false

theorem Try.infoInP : (Try.prog.info? 3).map (fun i => (i.zero, i.size, i.bytes)) = some (some (.int .i64 0), 1, 8) := by kernel_rfl
theorem one_intP : ∀ x : Int, ∀ u ∈ inV x, u.oneCell' = true := by intro x u h; simp [inV] at h; subst h; rfl
/-- A copy in new memory. -/
theorem copyInts_any (A : Option Addr) (n c : Nat) (r : List Int) (w : World) (ha : Rd inV 1 w A n c r) (hn : n ≤ 1048576) :
    Calls Try.prog 65 #[.slice A n c] w fun e w' => (∃ B d, e = .returned (.slice B n d) ∧ Own inV 1 w' w.heap.size 3 B n d r) ∧ Below w.heap.size w w' := by
  obtain ⟨i0, hi, hz0, hz1, hz2⟩ := info_parts Try.infoInP
  go_enter Try.func65, Try.ntmps65
  go_wp2_with ((
     at_builtin
     refine wpList_pushAll rfl _ _ _ rfl w.heap.size 3 i0 (.int .i64 0) 1 8 Try.underlying38 hi hz0 hz1 hz2 rfl (by omega) inV inV_len one_intP _ 0 0 [] rfl (Own.empty inV 1 _ 3) _ n c r rfl (ha.alloc _) (by simp only [maxLen]; omega) (by omega) (by first | simp; done | (simp; omega)) ?_
     intro B1 d1 w1 o1 g1
     simp only [Nat.zero_add, List.nil_append] at o1
     have b1 : Below w.heap.size w w1 := (below_alloc _).grown g1 (by simp) (fun k hk => by simp [blockOf] at hk; omega)))
  go_ret
  exact ⟨⟨_, _, rfl, o1⟩, b1⟩

theorem idxNil_any (A : Option Addr) (c : Nat) (v : Value) (w : World) : Calls Try.prog 84 #[.slice A 0 c, v] w fun e w' => e = .returned (.int .i64 (-1)) ∧ w = w' := by
  go_enter Try.func84, Try.ntmps84
  go_wp2
  go_loop [8] (fun i => i = .int .i64 0) (fun _ => 0)
  case atStart => rfl
  case round =>
    subst hrel
    go_wp2
    go_ret
    exact ⟨rfl, rfl⟩
theorem delNil_any (A : Option Addr) (c : Nat) (v : Value) (w : World) : Calls Try.prog 64 #[.slice A 0 c, v] w fun e w' => e = .returned (.slice A 0 c) ∧ w = w' := by
  go_enter Try.func64, Try.ntmps64
  go_wp2_with fail
  refine (idxNil_any _ _ _ _).mono ?_
  rintro e w1 ⟨rfl, rfl⟩
  go_wp2
  go_ret
  exact ⟨rfl, rfl⟩

theorem flat_inV (l : List Int) : l.flatMap inV = l.map (Value.int .i64) := by
  induction l with
  | nil => rfl
  | cons x t ih => rw [List.flatMap_cons, ih]; rfl
theorem below_sort {B g q : Nat} {w0 w : World} {d : Array Int} {os : Array Obj} (h : Below B w0 w) (hB : B ≤ w0.heap.size) (hg : B ≤ g) : Below B w0 (sortWorld (Value.int .i64) w g 0 q d os) := by
  have h1 := Lib.below_putRow (enc := Value.int .i64) (q := q) (d := d) h hg
  unfold sortWorld
  refine h1.trans ((?_ : Below (putRow (Value.int .i64) (Sort.ahead w q) g 0 d).heap.size _ _).mono (Nat.le_trans hB h1.size))
  exact ⟨rfl, rfl, rfl, by simp, fun k hk => heap_grow_old _ _ hk⟩
/-- slices.DeleteFunc on numbers that the call owns; the closure reads below block B alone. -/
theorem del_any (A : Option Addr) (n c base B g : Nat) (l : List Int) (lb : Array Value) (q : Int → Bool) (w0 w : World) (ho : Own inV 1 w base 3 A n c l) (hB : B ≤ base) (hB0 : B ≤ w0.heap.size) (hw : Below B w0 w)
    (eg : ∀ args w, (callFunc g args).run Try.prog w = .ok (.enter g args) w) (hq : ∀ (W : World) (x : Int), Below B w0 W → FnGives Try.prog g lb #[.int .i64 x] (.bool (q x)) W) :
    Calls Try.prog 64 #[.slice A n c, .func (.func g) #[] lb] w fun e w' => (∃ k, e = .returned (.slice A k c) ∧ Own inV 1 w' base 3 A k c (l.filter fun x => !q x)) ∧ Below B w0 w' := by
  have hlen := ho.len
  cases A with
  | none =>
    have hn0 : n = 0 := by
      rcases ho.row.2 with ⟨_, h⟩ | ⟨_, _, _, h, _⟩
      · exact h
      · cases h
    subst hn0
    have hl : l = [] := List.eq_nil_of_length_eq_zero hlen
    subst hl
    refine (delNil_any none c _ w).mono ?_
    rintro e w' ⟨rfl, rfl⟩
    exact ⟨⟨0, rfl, ho⟩, hw⟩
  | some a =>
    have hrow := ho.row
    rw [flat_inV] at hrow
    obtain ⟨g1, cap, hv, hb1, hlt, hnc, hcm, hl, hH⟩ := Lib.holds_of_ownsRow (enc := Value.int .i64) hrow (by intro h; cases h)
    injection hv with h1 h2 h3
    subst h3
    injection h1 with h1
    subst h1
    have hsz : (l.toArray).size = n := by simpa using hl
    have hnm : n ≤ 9223372036854775807 := by unfold maxLen at hcm; omega
    have hpo : PredOver Try.prog g lb (Value.int .i64) q g1 0 (l.toArray).size w := fun m os dk x _ => hq _ x (below_sort hw hB0 (Nat.le_trans hB hb1))
    have hp : PredAt Try.prog g lb (Value.int .i64) q w := fun W x hb => hq W x (hw.trans (hb.mono (Nat.le_trans hB0 hw.size)))
    have hcon := AnyE.slices_DeleteFunc Try.laysDel (Value.int .i64) (fun _ => rfl) q g lb eg 0 Try.zeroValue3 g1 0 c l.toArray w hp hpo hH (by rw [hsz]; exact hnm) (by rw [hsz]; exact hnc)
    change Calls Try.prog 64 _ _ _ at hcon
    rw [hsz] at hcon
    refine hcon.mono ?_
    rintro e w' ⟨rfl, k, rfl⟩
    have hfl : (l.filter fun x => !q x).length ≤ n := by rw [← hl]; exact List.length_filter_le _ _
    have hr := Lib.ownsRow_putRow (enc := Value.int .i64) (q := k) (k := (l.filter fun x => !q x).length) (ys := (l.filter fun x => !q x) ++ List.replicate (n - (l.filter fun x => !q x).length) 0) hrow (by simp; omega) hfl
    refine ⟨⟨_, rfl, rfl, ?_⟩, Lib.below_putRow hw (Nat.le_trans hB hb1)⟩
    rw [flat_inV]
    rw [List.take_left] at hr
    exact hr


theorem isN_any (x m : Int) (q : Nat) (w : World) (hq : w.cell? ⟨q, 0, none⟩ = some (.int .i64 m)) : FnGives Try.prog 66 #[.pointer (some ⟨q, 0, none⟩)] #[.int .i64 x] (.bool (x == m)) w := by
  show Calls Try.prog 66 #[.int .i64 x, .pointer (some ⟨q, 0, none⟩)] w _
  go_enter Try.func66, Try.ntmps66
  go_wp2
  go_ret
  exact ⟨rfl, 0, rfl⟩
/-- without(list, m): the list without m, in new memory. -/
theorem without_any (A : Option Addr) (n c : Nat) (r : List Int) (m : Int) (w : World) (ha : Rd inV 1 w A n c r) (hn : n ≤ 1048576) :
    Calls Try.prog 37 #[.slice A n c, .int .i64 m] w fun e w' => (∃ B k d, e = .returned (.slice B k d) ∧ Own inV 1 w' w.heap.size 3 B k d (r.filter fun x => !(x == m))) ∧ Below w.heap.size w w' := by
  have b0 := below_alloc (w := w) (.cells #[.int .i64 m] 3)
  have q0 : (w.alloc (.cells #[.int .i64 m] 3)).cell? ⟨w.heap.size, 0, none⟩ = some (.int .i64 m) := cell_of_row _ _ 0 _ _ _ (heap_new rfl)
  have eg : ∀ args w, (callFunc 66 args).run Try.prog w = .ok (.enter 66 args) w := enters_of Try.func66 (by kernel_rfl) rfl
  go_enter Try.func37, Try.ntmps37
  go_wp2_with fail
  generalize hw0 : w.alloc (.cells #[.int .i64 m] 3) = w0 at *
  clear hw0
  refine (copyInts_any _ _ _ r _ (ha.below b0) hn).mono ?_
  rintro e w1 ⟨⟨B, d, rfl, o1⟩, b1⟩
  go_wp2_with fail
  refine (del_any B n d w0.heap.size w0.heap.size 66 r _ (fun x => x == m) w0 _ o1 (Nat.le_refl _) (Nat.le_refl _) b1 eg (fun W x hb => isN_any x m w.heap.size W (cell_below hb q0))).mono ?_
  rintro e w2 ⟨⟨k, rfl, o2⟩, b2⟩
  go_wp2
  go_ret
  exact ⟨⟨_, _, _, rfl, o2.base_le b0.size⟩, below_trans b0 b2⟩


theorem sortG_any (A : Option Addr) (n c base : Nat) (l : List Int) (w : World) (ho : Own inV 1 w base 3 A n c l) (hn : n < 4611686018427387904) :
    Calls Try.prog 38 #[.slice A n c] w fun e w' => e = .returned (.tuple #[]) ∧ Own inV 1 w' base 3 A n c (l.mergeSort fun x y => decide (x ≤ y)) ∧ w.grownBy w' (blockOf A) := by
  have hlen := ho.len
  have hrow := ho.row
  rw [flat_inV] at hrow
  rcases hrow.2 with ⟨hnil, h0⟩ | ⟨g, cap, cur, hv, hbase, hb, h1, h2, h3, h4⟩
  · injection hnil with e1 e2 e3
    subst e1 e2 e3
    have hl : l = [] := List.eq_nil_of_length_eq_zero hlen
    subst hl
    refine (Try.slices_Sort_int_none none 0 w).mono ?_
    rintro e w' ⟨rfl, rfl⟩
    exact ⟨rfl, by simpa using ho, World.grownBy.refl _ _⟩
  · injection hv with e1 e2 e3
    subst e1 e3
    subst hlen
    refine (Try.slices_Sort_int g 0 c l w (holds_of_blockI hb (by simpa using h4)) (Array.getElem?_eq_some_iff.1 hb).1 hn).mono ?_
    rintro e w' ⟨rfl, q, os, rfl⟩
    refine ⟨rfl, ⟨by simp, ?_⟩, grownBy_sortedI _⟩
    rw [flat_inV]
    exact ownsRow_sortedI (by simp) hbase hb h1 h2 h3
theorem compactG_any (A : Option Addr) (n c base : Nat) (l : List Int) (w : World) (ho : Own inV 1 w base 3 A n c l) :
    Calls Try.prog 39 #[.slice A n c] w fun e w' => (∃ k, e = .returned (.slice A k c) ∧ Own inV 1 w' base 3 A k c (Lib.compact l)) ∧ w.grownBy w' (blockOf A) := by
  have hlen := ho.len
  have hrow := ho.row
  rw [flat_inV] at hrow
  rcases hrow.2 with ⟨hnil, h0⟩ | ⟨g, cap, cur, hv, hbase, hb, h1, h2, h3, h4⟩
  · injection hnil with e1 e2 e3
    subst e1 e2 e3
    have hl : l = [] := List.eq_nil_of_length_eq_zero hlen
    subst hl
    refine (Try.slices_Compact_int_empty none 0 w).mono ?_
    rintro e w' ⟨rfl, rfl⟩
    exact ⟨⟨0, rfl, ho⟩, World.grownBy.refl _ _⟩
  · injection hv with e1 e2 e3
    subst e1 e3
    subst hlen
    refine (Try.slices_Compact_int g 0 c l w (holds_of_blockI hb (by simpa using h4)) (by unfold maxLen at h2; omega) h1).mono ?_
    rintro e w' ⟨rfl, q, rfl⟩
    have hfl : (Lib.compact l).length ≤ l.length := Lib.compact_length_le l
    have hr := Lib.ownsRow_putRow (enc := Value.int .i64) (q := q) (k := (Lib.compact l).length) (ys := Lib.compact l ++ List.replicate (l.length - (Lib.compact l).length) 0) hrow (by simp; omega) hfl
    refine ⟨⟨_, rfl, rfl, ?_⟩, rfl, rfl, rfl, by simp [putRow, mapBlock, Sort.ahead], fun k hk hne => ?_⟩
    · rw [flat_inV]
      rw [List.take_left] at hr
      exact hr
    · have : g ≠ k := fun e => hne (by rw [e]; rfl)
      simp [putRow, mapBlock, Sort.ahead, Array.getElem?_modify, this]

end Go.Proofs.Ytndoapgalbljpaa
