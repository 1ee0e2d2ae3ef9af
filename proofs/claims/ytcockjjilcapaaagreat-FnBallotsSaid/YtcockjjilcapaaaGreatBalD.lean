/-
  YtcockjjilcapaaaGreatBalD: ballots: UnusedCodes, both sides. (Printed by wip/gen/bald.py.)
-/
import Derived.Test.YtcockjjilcapaaaGreatBalC
namespace Go.Proofs.YtcockjjilcapaaaGreat
open Go Go.RowKit Go.Sort
set_option linter.unusedVariables false

/-- The codes of the roll that no ballot has. -/
def unuX (l : List BA) (r : List Int) : List Int := r.filter (fun x => !(codes l).contains x)
def unuL (l : List BA) (r : List Int) : List Int := if pollB l r then unuX l r else []
theorem unuL_no {l : List BA} {r : List Int} (h : pollB l r = false) : unuL l r = [] := by simp [unuL, h]
theorem unuL_yes {l : List BA} {r : List Int} (h : pollB l r = true) : unuL l r = unuX l r := by simp [unuL, h]
theorem unuL_len (l : List BA) (r : List Int) : (unuL l r).length ≤ r.length := by unfold unuL; split; exact List.length_filter_le _ _; simp
def usedTo (l : List BA) (x : Int) (k : Nat) : Bool := (l.take k).any (fun y => y.code == x)
theorem used_next {l : List BA} {x : Int} {k : Nat} {y : BA} (hy : l[k]? = some y) : usedTo l x (k + 1) = (usedTo l x k || (y.code == x)) := by
  unfold usedTo; rw [List.take_add_one, hy, List.any_append]; simp
theorem used_all {l : List BA} {x : Int} {n : Nat} (hl : l.length = n) : usedTo l x n = (codes l).contains x := by
  unfold usedTo codes
  rw [List.take_of_length_le (by omega), Bool.eq_iff_iff, List.any_eq_true, List.contains_iff_mem, List.mem_map]
  constructor
  · rintro ⟨y, hy, h⟩; exact ⟨y, hy, by simpa using h⟩
  · rintro ⟨y, hy, h⟩; exact ⟨y, hy, by simpa using h⟩
theorem unu_yes {l : List BA} {r : List Int} {k : Nat} {x : Int} (hx : r[k]? = some x) (h : (codes l).contains x = false) : unuX l (r.take (k + 1)) = unuX l (r.take k) ++ [x] := by
  unfold unuX; rw [List.take_add_one, hx, List.filter_append]; simp only [Option.toList, List.filter_cons, h]; simp
theorem unu_no {l : List BA} {r : List Int} {k : Nat} {x : Int} (hx : r[k]? = some x) (h : (codes l).contains x = true) : unuX l (r.take (k + 1)) = unuX l (r.take k) := by
  unfold unuX; rw [List.take_add_one, hx, List.filter_append]; simp only [Option.toList, List.filter_cons, h]; simp

set_option maxRecDepth 100000 in
theorem isUsed_any (x : Int) (q : Nat) (Bc : Option Addr) (n dc : Nat) (cs : List Int) (w : World) (hq : w.cell? ⟨q, 0, none⟩ = some (.slice Bc n dc)) (hc : Rd inV 1 w Bc n dc cs) :
    FnGives Tryz.prog 45 #[.pointer (some ⟨q, 0, none⟩)] #[.int .i64 x] (.bool (cs.contains x)) w := by
  show Calls Tryz.prog 45 #[.int .i64 x, .pointer (some ⟨q, 0, none⟩)] w _
  go_enter Tryz.func45, Tryz.ntmps45
  go_wp2_with fail
  refine (contains_any _ _ _ cs x _ hc).mono ?_
  rintro e w1 ⟨rfl, rfl⟩
  go_wp2
  go_ret
  exact ⟨by first | rfl | simp, 0, rfl⟩

set_option maxRecDepth 100000 in
set_option maxHeartbeats 1000000 in
theorem implUnused_any (A : Option Addr) (n c : Nat) (l : List BA) (B0 : Option Addr) (m d0 : Nat) (r : List Int) (w : World) (ha : Rd baV 2 w A n c l) (hb : Rd inV 1 w B0 m d0 r) (hn : n ≤ 1048576) (hg : ∀ x ∈ l, BaSz x) (hm : m ≤ 1048576) :
    Calls Tryz.prog 17 #[.slice A n c, .slice B0 m d0] w fun e w' => (∃ B q d, e = .returned (.tuple #[.slice B q d, .bool (pollB l r)]) ∧ Own inV 1 w' w.heap.size 3 B q d (unuL l r)) ∧ Below w.heap.size w w' := by
  have eg : ∀ args w, (callFunc 45 args).run Tryz.prog w = .ok (.enter 45 args) w := enters_of Tryz.func45 (by kernel_rfl) rfl
  go_enter Tryz.func17, Tryz.ntmps17
  go_wp2_with fail
  refine (isPoll_any _ _ _ _ _ _ _ _ _ ha hb hg).mono ?_
  rintro e w1 ⟨rfl, b1⟩
  cases h1 : pollB l r
  · have E := Lib.hid h1
    clear ha hb
    go_wp2
    go_ret2
    exact ⟨⟨_, _, _, ret_sl_bool E.out.symm, by rw [unuL_no E.out]; exact Own.nil _ _ _⟩, b1⟩
  have E := Lib.hid h1
  go_wp2_with fail
  refine (codesOf_any _ _ _ l _ (ha.below b1) hn).mono ?_
  rintro e w2 ⟨⟨Bc, dc, rfl, oc⟩, b2⟩
  have t2 := below_trans b1 b2
  have b3 := below_alloc (w := w2) (.cells #[.slice Bc n dc] 25)
  have q0 : (w2.alloc (.cells #[.slice Bc n dc] 25)).cell? ⟨w2.heap.size, 0, none⟩ = some (.slice Bc n dc) := cell_of_row _ _ 0 _ _ _ (heap_new rfl)
  have rc := (oc.rd inV_len).below b3
  have hbr := hb.below (below_trans t2 b3)
  clear oc h1
  go_wp2_with fail
  generalize hw3 : w2.alloc (.cells #[.slice Bc n dc] 25) = w3 at *
  clear hw3
  have t3 := below_trans t2 b3
  refine (copyInts_any _ _ _ r _ hbr hm).mono ?_
  rintro e w4 ⟨⟨B, d, rfl, o4⟩, b4⟩
  go_wp2_with fail
  refine (del_any B m d w3.heap.size w3.heap.size 45 r _ (fun x => (codes l).contains x) w3 _ o4 (Nat.le_refl _) (Nat.le_refl _) b4 eg (fun W x hbb => isUsed_any x w2.heap.size Bc n dc (codes l) W (cell_below hbb q0) (rc.below hbb))).mono ?_
  rintro e w5 ⟨⟨k, rfl, o5⟩, b5⟩
  clear ha hb hbr rc
  go_wp2
  go_ret2
  exact ⟨⟨_, _, _, ret_sl_bool E.out.symm, by rw [unuL_yes E.out]; exact o5.base_le t3.size⟩, below_trans t3 b5⟩


set_option maxRecDepth 100000 in
set_option maxHeartbeats 2000000 in
theorem specUnused_any (A : Option Addr) (n c : Nat) (l : List BA) (B0 : Option Addr) (m d0 : Nat) (r : List Int) (w : World) (ha : Rd baV 2 w A n c l) (hb : Rd inV 1 w B0 m d0 r) (hn : n ≤ 1048576) (hg : ∀ x ∈ l, BaSz x) (hm : m ≤ 1048576) :
    Calls Tryz.prog 19 #[.slice A n c, .slice B0 m d0] w fun e w' => (∃ B q d, e = .returned (.tuple #[.slice B q d, .bool (pollB l r)]) ∧ Own inV 1 w' w.heap.size 3 B q d (unuL l r)) ∧ Below w.heap.size w w' := by
  obtain ⟨i0, hi, hz0, hz1, hz2⟩ := info_parts Tryz.infoIn'
  have HL := Lib.hid ha.len
  have HM := Lib.hid hb.len
  have oe := Own.empty inV 1 w 3
  have b0 := below_alloc (w := w) (.cells #[] 3)
  go_enter Tryz.func19, Tryz.ntmps19
  go_wp2_with fail
  generalize hgw0 : w.alloc (.cells #[] 3) = w0 at *
  clear hgw0
  refine (l20Asked_any _ _ _ _ _ _ _ _ _ (ha.below b0) (hb.below b0) hg).mono ?_
  rintro e w1 ⟨rfl, b1⟩
  replace oe := oe.below b1
  replace b1 := below_trans b0 b1
  clear b0
  cases h1 : pollB l r
  · have E := Lib.hid h1
    clear ha hb
    go_wp2
    go_ret2
    exact ⟨⟨_, _, _, ret_sl_bool E.out.symm, by rw [unuL_no E.out]; exact oe⟩, b1⟩
  have E1 := Lib.hid h1
  clear h1
  go_wp2
  go_loopw [6, 7] (fun v i wr => ∃ k : Nat, k ≤ m ∧ i = .int .i64 k ∧ (∃ B q d, v = .slice B q d ∧ q ≤ k ∧ Own inV 1 wr w.heap.size 3 B q d (unuX l (r.take k))) ∧ Below w.heap.size w wr) (fun _ i _ => m - (intOf i).toNat)
  case atStart => exact ⟨0, Nat.zero_le _, rfl, ⟨_, 0, 0, rfl, Nat.le_refl _, oe⟩, b1⟩
  case round =>
    clear oe b1
    obtain ⟨k, hk, rfl, ⟨B, q, d, rfl, hq, ho⟩, hbw⟩ := hrel
    by_cases hlt : k < m
    · obtain ⟨x, hx⟩ : ∃ x, r[k]? = some x := ⟨_, List.getElem?_eq_getElem (by rw [HM.out]; exact hlt)⟩
      have HX := Lib.hid hx
      clear hx
      go_wp2
      obtain ⟨wo, hwo⟩ : ∃ wo : World, wo = wr := ⟨_, rfl⟩
      subst hwo
      go_loopw [8, 9] (fun uv v wr => ∃ i : Nat, i ≤ n ∧ v = .int .i64 i ∧ uv = .bool (usedTo l x i) ∧ Own inV 1 wr w.heap.size 3 B q d (unuX l (r.take k)) ∧ Below w.heap.size w wr) (fun _ v _ => n - (intOf v).toNat)
      case atStart => exact ⟨0, Nat.zero_le _, rfl, rfl, ho, hbw⟩
      case round =>
        clear ho hbw
        obtain ⟨i, hi', rfl, rfl, ho, hbw⟩ := hrel
        by_cases hin : i < n
        · obtain ⟨b3, o3, y, rfl, hy, c0, c1⟩ := (ha.below hbw).ba hin
          obtain ⟨b4, o4, x', rfl, hx', d1⟩ := (hb.below hbw).in hlt
          obtain rfl : x = x' := by rw [HX.out] at hx'; injection hx'
          have HY := Lib.hid hy
          have E := Lib.hid (used_next (x := x) hy)
          have bq := fun nq => below_drewN (Below.refl wr.heap.size wr) nq
          have hi0 : (0 : Int) ≤ (i : Int) := by omega
          have hi1 : (i : Int) < (n : Int) := by omega
          have hk0 : (0 : Int) ≤ (k : Int) := by omega
          have hk1 : (k : Int) < (m : Int) := by omega
          clear hy hx' ha hb
          cases h6 : usedTo l x i
          · cases h5 : (y.code == x)
            all_goals
              have H6 := Lib.hid h6
              have H5 := Lib.hid h5
              go_wp2_with fail
              go_quiet (fail)
              go_wp2
              go_roundw
              case rel => exact ⟨i + 1, by omega, by go_num, by rw [E.out, H6.out, H5.out]; rfl, ho.below (bq _), below_drewN hbw _⟩
              case measure => simp [intOf]; omega
          · have H6 := Lib.hid h6
            go_wp2_with fail
            go_quiet (fail)
            go_wp2
            go_roundw
            case rel => exact ⟨i + 1, by omega, by go_num, by rw [E.out, H6.out]; rfl, ho.below (bq _), below_drewN hbw _⟩
            case measure => simp [intOf]; omega
        · obtain rfl : i = n := by omega
          obtain ⟨b4, o4, x', rfl, hx', d1⟩ := (hb.below hbw).in hlt
          obtain rfl : x = x' := by rw [HX.out] at hx'; injection hx'
          have EU := Lib.hid (used_all (x := x) HL.out)
          clear hx' ha hb
          cases h6 : usedTo l x i
          · have E := Lib.hid (unu_yes (l := l) HX.out (by rw [← EU.out]; exact h6))
            go_wp2_with (at_builtin; refine wpList_push rfl _ _ _ rfl w.heap.size 3 i0 (.int .i64 0) 1 8 Tryz.underlying25 hi hz0 hz1 hz2 rfl (by omega) inV inV_len one_int B q d _ rfl ho x _ rfl _ rfl (by first | rfl | simp) (by simp only [maxLen]; omega) (by omega) hbw.size ?_; intro B3 d3 w3 ho3 hg3)
            go_roundw
            case rel => exact ⟨k + 1, by omega, by go_num, ⟨B3, q + 1, d3, rfl, by omega, by rw [E.out]; exact ho3⟩, below_push hbw ho hg3 (Nat.le_refl _)⟩
            case measure => simp [intOf]; omega
          · have E := Lib.hid (unu_no (l := l) HX.out (by rw [← EU.out]; exact h6))
            go_wp2
            go_roundw
            case rel => exact ⟨k + 1, by omega, by go_num, ⟨B, q, d, rfl, by omega, by rw [E.out]; exact ho⟩, hbw⟩
            case measure => simp [intOf]; omega
    · obtain rfl : k = m := by omega
      have E := Lib.hid (show unuX l (r.take k) = unuL l r by rw [unuL_yes E1.out, List.take_of_length_le (by rw [HM.out]; exact Nat.le_refl _)])
      clear ha hb
      go_wp2
      go_ret2
      exact ⟨⟨_, _, _, ret_sl_bool E1.out.symm, by rw [← E.out]; exact ho⟩, hbw⟩


end Go.Proofs.YtcockjjilcapaaaGreat
