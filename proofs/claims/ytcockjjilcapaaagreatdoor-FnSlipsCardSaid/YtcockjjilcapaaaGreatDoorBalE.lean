/-
  YtcockjjilcapaaaGreatDoorBalE: ballots: rows of the call's own sorted and compacted; the choices of the good ballots; BlankBallots. (Printed by wip/gen/bale.py.)
-/
import Derived.Test.YtcockjjilcapaaaGreatDoorBalC
import Derived.Sort.OwnSorted
import Derived.Sort.OwnSortedInts
namespace Go.Proofs.YtcockjjilcapaaaGreatDoor
open Go Go.RowKit Go.Sort
set_option linter.unusedVariables false

theorem below_sortE {α : Type} [Inhabited α] {enc : α → Value} {B g q : Nat} {w0 w : World} {d : Array α} {os : Array Obj} (h : Below B w0 w) (hB : B ≤ w0.heap.size) (hg : B ≤ g) : Below B w0 (grow (putRow enc (Sort.ahead w q) g 0 d) os) := by
  have h1 := Lib.below_putRow (enc := enc) (q := q) (d := d) h hg
  refine h1.trans ((?_ : Below (putRow enc (Sort.ahead w q) g 0 d).heap.size _ _).mono (Nat.le_trans hB h1.size))
  exact below_grown _ 0 os
def sortI (l : List Int) : List Int := l.mergeSort fun x y => decide (x ≤ y)
theorem sortI_len (l : List Int) : (sortI l).length = l.length := by simp [sortI]
def bl (x : ByteArray) : List UInt8 := x.data.toList
def mk (s : List UInt8) : ByteArray := ⟨s.toArray⟩
theorem mk_bl (x : ByteArray) : mk (bl x) = x := by simp [mk, bl]
theorem bl_mk (x : List UInt8) : bl (mk x) = x := by simp [mk, bl]
theorem flat_stV (l : List ByteArray) : l.flatMap stV = (l.map bl).map encStr := by
  have h := Lib.map_encStr l
  unfold bl
  rw [h]
  induction l with
  | nil => rfl
  | cons x t ih => rw [List.flatMap_cons, ih (Lib.map_encStr t)]; rfl
def sortS (l : List ByteArray) : List ByteArray := ((l.map bl).mergeSort fun x y => decide (x ≤ y)).map mk
theorem sortS_len (l : List ByteArray) : (sortS l).length = l.length := by simp [sortS]
theorem sortS_bl (l : List ByteArray) : (sortS l).map bl = (l.map bl).mergeSort fun x y => decide (x ≤ y) := by
  unfold sortS; rw [List.map_map]; conv => rhs; rw [← List.map_id (List.mergeSort _ _)]
  apply List.map_congr_left; intro x _; exact bl_mk x
theorem sortS_perm (l : List ByteArray) : (sortS l).Perm l := by
  have h := (List.mergeSort_perm (l.map bl) (fun x y => decide (x ≤ y))).map mk
  have e : (l.map bl).map mk = l := by rw [List.map_map]; conv => rhs; rw [← List.map_id l]
                                       apply List.map_congr_left; intro x _; exact mk_bl x
  rw [e] at h
  exact h
theorem sortS_any (A : Option Addr) (n c base B : Nat) (l : List ByteArray) (w0 w : World) (ho : Own stV 1 w base 9 A n c l) (hB : B ≤ base) (hB0 : B ≤ w0.heap.size) (hw : Below B w0 w) (hn : n < 4611686018427387904) :
    Calls Tryz.prog 81 #[.slice A n c] w fun e w' => e = .returned (.tuple #[]) ∧ Own stV 1 w' base 9 A n c (sortS l) ∧ Below B w0 w' := by
  have hlen := ho.len
  have hrow := ho.row
  rw [flat_stV] at hrow
  rcases hrow.2 with ⟨hnil, h0⟩ | ⟨g, cap, cur, hv, hbase, hb, h1, h2, h3, h4⟩
  · injection hnil with e1 e2 e3
    subst e1 e2 e3
    have hl : l = [] := List.eq_nil_of_length_eq_zero hlen
    subst hl
    refine (Tryz.slices_Sort_string_none none 0 w).mono ?_
    rintro e w' ⟨rfl, rfl⟩
    exact ⟨rfl, by rw [show sortS [] = [] by simp [sortS]]; exact ho, hw⟩
  · injection hv with e1 e2 e3
    subst e1 e3
    have hl : (l.map bl).length = n := by simpa using hlen
    have hcon := Tryz.slices_Sort_string g 0 c (l.map bl) w (holds_of_block hb (by rw [hl]; simpa using h4)) (Array.getElem?_eq_some_iff.1 hb).1 (by rw [hl]; exact hn)
    rw [hl] at hcon
    refine hcon.mono ?_
    rintro e w' ⟨rfl, q, os, rfl⟩
    refine ⟨rfl, ⟨by rw [sortS_len]; exact hlen, ?_⟩, below_sortE hw hB0 (Nat.le_trans hB hbase)⟩
    rw [flat_stV, sortS_bl]
    have hr := ownsRow_sorted (n := q) (os := os) (ts := (l.map bl).mergeSort fun x y => decide (x ≤ y)) (ss := l.map bl) (by simp) hbase hb (by rw [hl]; exact h1) h2 h3
    rw [hl] at hr
    exact hr
/-- Rows of two element types lie in two blocks. -/
theorem Own.ne_block {α β : Type} {enc : α → List Value} {enc' : β → List Value} {sz sz' : Nat} {w : World} {base base' : Nat} {e e' : TypeId} {A A' : Option Addr} {n c n' c' : Nat} {l : List α} {l' : List β} (h : Own enc sz w base e A n c l) (h' : Own enc' sz' w base' e' A' n' c' l') (he : e ≠ e') : blockOf A = none ∨ blockOf A ≠ blockOf A' := by
  rcases h.row.2 with ⟨h0, _⟩ | ⟨g, cap, cur, hv, hb, hg, _⟩
  · injection h0 with h0; subst h0; exact .inl rfl
  · injection hv with hv; subst hv
    right
    intro hE
    rcases h'.row.2 with ⟨h0, _⟩ | ⟨g', cap', cur', hv', hb', hg', _⟩
    · injection h0 with h0; subst h0; simp [blockOf] at hE
    · injection hv' with hv'; subst hv'
      have e1 : g = g' := by simpa [blockOf] using hE
      subst e1
      rw [hg] at hg'
      injection hg' with hg'
      injection hg' with _ h2
      exact he h2
/-- The choice of the ballot at a place. -/
def chOf (l : List BA) (i : Int) : ByteArray := (l[i.toNat]?.map (·.ch)).getD ByteArray.empty
def chL (l : List BA) (r : List Int) : List ByteArray := (goodX l r).map (chOf l)
theorem goodX_at {l : List BA} {r : List Int} {k : Nat} {g : Int} (h : (goodX l r)[k]? = some g) : ∃ (i : Nat) (x : BA), g = (i : Int) ∧ l[i]? = some x ∧ chOf l g = x.ch := by
  obtain ⟨i, x, _, hx, hf⟩ := fm_mem (List.mem_of_getElem? h)
  unfold goodF at hf
  split at hf
  · injection hf with hf
    refine ⟨i, x, hf.symm, hx, ?_⟩
    subst hf
    simp [chOf, hx]
  · cases hf
theorem ch_next {l : List BA} {r : List Int} {k : Nat} {g : Int} (h : (goodX l r)[k]? = some g) : ((goodX l r).take (k + 1)).map (chOf l) = ((goodX l r).take k).map (chOf l) ++ [chOf l g] := by
  rw [List.take_add_one, h, List.map_append]; rfl

set_option maxRecDepth 100000 in
set_option maxHeartbeats 1000000 in
theorem goodChoices_any (A : Option Addr) (n c : Nat) (l : List BA) (B0 : Option Addr) (m d0 : Nat) (r : List Int) (w : World) (ha : Rd baV 2 w A n c l) (hb : Rd inV 1 w B0 m d0 r) (hn : n ≤ 1048576) :
    Calls Tryz.prog 53 #[.slice A n c, .slice B0 m d0] w fun e w' => (∃ B q d, e = .returned (.slice B q d) ∧ Own stV 1 w' w.heap.size 9 B q d (sortS (chL l r))) ∧ Below w.heap.size w w' := by
  obtain ⟨i0, hi, hz0, hz1, hz2⟩ := info_parts Tryz.infoSt'
  have HL := Lib.hid ha.len
  have oe := Own.empty stV 1 w 9
  have b0 := below_alloc (w := w) (.cells #[] 9)
  go_enter Tryz.func53, Tryz.ntmps53
  go_wp2_with fail
  generalize hgw0 : w.alloc (.cells #[] 9) = w0 at *
  clear hgw0
  refine (goodBallots_any _ _ _ l _ _ _ r _ (ha.below b0) (hb.below b0) hn).mono ?_
  rintro e w1 ⟨⟨Bg, g, dg, rfl, og⟩, b1⟩
  have hgl : g ≤ n := by rw [← og.len, ← HL.out]; exact goodX_len l r
  have GL := Lib.hid og.len
  replace oe := oe.below b1
  replace b1 := below_trans b0 b1
  clear b0 hb
  go_wp2
  go_loopw [5, 13] (fun v i wr => ∃ k : Nat, k ≤ g ∧ i = .int .i64 k ∧ (∃ B d, v = .slice B k d ∧ Own stV 1 wr w.heap.size 9 B k d (((goodX l r).take k).map (chOf l))) ∧ Below w.heap.size w wr ∧ Own inV 1 wr w0.heap.size 3 Bg g dg (goodX l r)) (fun _ i _ => g - (intOf i).toNat)
  case atStart => exact ⟨0, Nat.zero_le _, rfl, ⟨_, 0, rfl, oe⟩, b1, og⟩
  case round =>
    clear oe b1 og
    obtain ⟨k, hk, rfl, ⟨B, d, rfl, ho⟩, hbw, og⟩ := hrel
    have rg := og.rd inV_len
    have nb := Lib.hid (og.ne_block ho (by decide))
    by_cases hlt : k < g
    · obtain ⟨b4, o4, y, rfl, hy, d1⟩ := rg.in hlt
      obtain ⟨i, x, rfl, hx, hch⟩ := goodX_at hy
      have E := Lib.hid (ch_next hy)
      have CH := Lib.hid hch
      have hil : i < n := by rw [← HL.out]; exact (List.getElem?_eq_some_iff.1 hx).1
      obtain ⟨b3, o3, x', rfl, hx', c0, c1⟩ := (ha.below hbw).ba hil
      obtain rfl : x = x' := by rw [hx] at hx'; injection hx'
      have RG := Lib.hid og
      clear hx' hx hy hch ha rg og
      go_wp2_with (at_builtin; refine wpList_push rfl _ _ _ rfl w.heap.size 9 i0 (.string ByteArray.empty) 1 16 Tryz.underlying38 hi hz0 hz1 hz2 rfl (by omega) stV stV_len one_str B k d _ rfl ho x.ch _ rfl _ rfl (by first | rfl | simp) (by simp only [maxLen]; omega) (by omega) hbw.size ?_; intro B3 d3 w3 ho3 hg3)
      go_roundw
      case rel => exact ⟨k + 1, by omega, by go_num, ⟨B3, d3, by go_num, by rw [E.out, CH.out]; exact ho3⟩, below_push hbw ho hg3 (Nat.le_refl _), RG.out.grown hg3 nb.out⟩
      case measure => simp [intOf]; omega
    · obtain rfl : k = g := by omega
      have E := Lib.hid (show (goodX l r).take k = goodX l r by rw [List.take_of_length_le (by rw [GL.out]; exact Nat.le_refl _)])
      rw [E.out] at ho
      clear ha rg og
      go_wp2_with fail
      refine (sortS_any B k d w.heap.size w.heap.size _ w _ ho (Nat.le_refl _) (Nat.le_refl _) hbw (by omega)).mono ?_
      rintro e w2 ⟨rfl, o2, b2⟩
      go_wp2
      go_ret
      exact ⟨⟨_, _, _, rfl, o2⟩, b2⟩


end Go.Proofs.YtcockjjilcapaaaGreatDoor
