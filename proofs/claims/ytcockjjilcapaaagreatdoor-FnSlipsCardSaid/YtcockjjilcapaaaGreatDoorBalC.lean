/-
  YtcockjjilcapaaaGreatDoorBalC: ballots: the good ballots, both sides. (Printed by wip/gen/balc.py.)
-/
import Derived.Test.YtcockjjilcapaaaGreatDoorBalB
import Derived.BigQuiet
namespace Go.Proofs.YtcockjjilcapaaaGreatDoor
open Go Go.RowKit Go.Sort
set_option linter.unusedVariables false

def codes (l : List BA) : List Int := l.map (·.code)
/-- How many of the first k ballots have a code. -/
def cntTo (l : List BA) (c : Int) (k : Nat) : Nat := ((l.take k).filter (fun y => y.code == c)).length
theorem cnt_yes {l : List BA} {c : Int} {k : Nat} {y : BA} (hy : l[k]? = some y) (h : (y.code == c) = true) : cntTo l c (k + 1) = cntTo l c k + 1 := by
  unfold cntTo; rw [List.take_add_one, hy, List.filter_append]; simp [h]
theorem cnt_no {l : List BA} {c : Int} {k : Nat} {y : BA} (hy : l[k]? = some y) (h : (y.code == c) = false) : cntTo l c (k + 1) = cntTo l c k := by
  unfold cntTo; rw [List.take_add_one, hy, List.filter_append]; simp [h]
theorem cnt_le (l : List BA) (c : Int) (k : Nat) : cntTo l c k ≤ k := Nat.le_trans (List.length_filter_le _ _) (List.length_take_le _ _)
theorem cnt_without (l : List BA) (c : Int) : ((codes l).filter (fun x => !(x == c))).length + cntTo l c l.length = l.length := by
  unfold cntTo codes
  rw [List.take_length]
  induction l with
  | nil => rfl
  | cons y t ih =>
    rw [List.map_cons, List.filter_cons, List.filter_cons]
    by_cases h : (y.code == c) = true
    · rw [if_neg (by simp [h]), if_pos h]; simp only [List.length_cons]; omega
    · rw [if_pos (by simpa using h), if_neg h]; simp only [List.length_cons]; omega
/-- The place of a good ballot. -/
def goodF (l : List BA) (r : List Int) (i : Nat) (x : BA) : Option Int := if r.contains x.code && decide (cntTo l x.code l.length = 1) then some (i : Int) else none
def goodX (l : List BA) (r : List Int) : List Int := fm (goodF l r) l l.length
def gooL (l : List BA) (r : List Int) : List Int := if pollB l r then goodX l r else []
theorem gooL_no {l : List BA} {r : List Int} (h : pollB l r = false) : gooL l r = [] := by simp [gooL, h]
theorem gooL_yes {l : List BA} {r : List Int} (h : pollB l r = true) : gooL l r = goodX l r := by simp [gooL, h]
theorem goodX_len (l : List BA) (r : List Int) : (goodX l r).length ≤ l.length := fm_len _ _ _
theorem gooL_len (l : List BA) (r : List Int) : (gooL l r).length ≤ l.length := by unfold gooL; split; exact goodX_len _ _; simp

theorem contains_any (A : Option Addr) (n c : Nat) (r : List Int) (x : Int) (w : World) (ha : Rd inV 1 w A n c r) :
    Calls Tryz.prog 99 #[.slice A n c, .int .i64 x] w fun e w' => e = .returned (.bool (r.contains x)) ∧ w = w' := by
  have hn := ha.le
  by_cases h0 : n = 0
  · subst h0
    have e1 := List.eq_nil_of_length_eq_zero ha.len
    subst e1
    refine (Tryz.slices_Contains_int_empty A c x w).mono ?_
    rintro e w' ⟨rfl, rfl⟩
    exact ⟨rfl, rfl⟩
  · obtain ⟨b1, o1, rfl, h1⟩ := ha.at_ (by omega)
    have g1 : ∀ j, j < r.length → w.cell? ⟨b1, o1 + j, none⟩ = some (.int .i64 (r.getD j 0)) := fun j hj => by
      have := h1 j r[j] (List.getElem?_eq_getElem hj) 0 _ rfl
      simpa [List.getD, List.getElem?_eq_getElem hj] using this
    refine (Tryz.slices_Contains_int b1 o1 n c r x w (by rw [ha.len]; exact Nat.le_refl _) hn g1).mono ?_
    rintro e w' ⟨rfl, rfl⟩
    exact ⟨by rw [List.take_of_length_le (by rw [ha.len]; exact Nat.le_refl _)], rfl⟩

set_option maxHeartbeats 400000 in
theorem l1Has_any (A : Option Addr) (n c : Nat) (r : List Int) (x : Int) (w : World) (ha : Rd inV 1 w A n c r) :
    Calls Tryz.prog 82 #[.slice A n c, .int .i64 x] w fun e w' => e = .returned (.bool (r.contains x)) ∧ w = w' := by
  have hm := ha.le
  have HL := Lib.hid ha.len
  go_enter Tryz.func82, Tryz.ntmps82
  go_wp2
  go_loop [5] (fun i => ∃ k : Nat, k ≤ n ∧ i = .int .i64 k ∧ ∀ j y, j < k → r[j]? = some y → y ≠ x) (fun i => n - (intOf i).toNat)
  case atStart => exact ⟨0, Nat.zero_le _, rfl, fun j y hj => absurd hj (by omega)⟩
  case round =>
    obtain ⟨k, hk, rfl, hup⟩ := hrel
    have HU := Lib.hid hup
    clear hup
    by_cases hlt : k < n
    · obtain ⟨b1, o1, y, rfl, hs, c0⟩ := ha.in hlt
      have HS := Lib.hid hs
      clear hs ha
      cases h5 : (y == x)
      · have HN : Hid (∀ j z, j < k + 1 → r[j]? = some z → z ≠ x) := fun j z hj hz => by
          by_cases e : j = k
          · subst e; rw [HS.out] at hz; injection hz with hz; rw [← hz]; simpa using h5
          · exact HU.out j z (by omega) hz
        go_wp2
        go_round
        case rel => exact ⟨k + 1, by omega, by go_num, HN.out⟩
        case measure => simp [intOf]; omega
      · have E := Lib.hid (show r.contains x = true by
          have h6 : y = x := by simpa using h5
          rw [List.contains_iff_mem, ← h6]
          exact List.mem_of_getElem? HS.out)
        go_wp2
        go_ret
        exact ⟨ret_bool (by have h := E.out; simp at h; simp [h]), rfl⟩
    · obtain rfl : k = n := by omega
      have E := Lib.hid (show r.contains x = false by
        rw [Bool.eq_false_iff]
        intro h
        rw [List.contains_iff_mem] at h
        obtain ⟨j, hj⟩ := List.mem_iff_getElem?.1 h
        exact HU.out j x (by rw [← HL.out]; exact (List.getElem?_eq_some_iff.1 hj).1) hj rfl)
      clear ha
      go_wp2
      go_ret
      exact ⟨ret_bool (by have h := E.out; simp at h; simp [h]), rfl⟩

theorem codes_snoc {l : List BA} {k : Nat} {x : BA} (hx : l[k]? = some x) : (l.take (k + 1)).map (·.code) = (l.take k).map (·.code) ++ [x.code] := by
  rw [List.take_add_one, hx, List.map_append]; rfl
set_option maxRecDepth 100000 in
set_option maxHeartbeats 1000000 in
theorem codesOf_any (A : Option Addr) (n c : Nat) (l : List BA) (w : World) (ha : Rd baV 2 w A n c l) (hn : n ≤ 1048576) :
    Calls Tryz.prog 98 #[.slice A n c] w fun e w' => (∃ B d, e = .returned (.slice B n d) ∧ Own inV 1 w' w.heap.size 3 B n d (codes l)) ∧ Below w.heap.size w w' := by
  obtain ⟨i0, hi, hz0, hz1, hz2⟩ := info_parts Tryz.infoIn'
  have HL := Lib.hid ha.len
  have oe := Own.empty inV 1 w 3
  go_enter Tryz.func98, Tryz.ntmps98
  go_wp2
  go_loopw [3, 9] (fun v i wr => ∃ k : Nat, k ≤ n ∧ i = .int .i64 k ∧ (∃ B d, v = .slice B k d ∧ Own inV 1 wr w.heap.size 3 B k d ((l.take k).map (·.code))) ∧ Below w.heap.size w wr) (fun _ i _ => n - (intOf i).toNat)
  case atStart => exact ⟨0, Nat.zero_le _, rfl, ⟨_, 0, rfl, oe⟩, below_alloc _⟩
  case round =>
    clear oe
    obtain ⟨k, hk, rfl, ⟨B, d, rfl, ho⟩, hbw⟩ := hrel
    by_cases hlt : k < n
    · obtain ⟨b3, o3, x, rfl, hs, c0, c1⟩ := (ha.below hbw).ba hlt
      have E := Lib.hid (codes_snoc hs)
      clear hs ha
      go_wp2_with (at_builtin; refine wpList_push rfl _ _ _ rfl w.heap.size 3 i0 (.int .i64 0) 1 8 Tryz.underlying33 hi hz0 hz1 hz2 rfl (by omega) inV inV_len one_int B k d _ rfl (ho.alloc _) x.code _ rfl _ rfl (by first | rfl | simp) (by simp only [maxLen]; omega) (by omega) (Nat.le_trans hbw.size (below_alloc _).size) ?_; intro B3 d3 w3 ho3 hg3)
      go_roundw
      case rel => exact ⟨k + 1, by omega, by go_num, ⟨B3, d3, by go_num, by rw [E.out]; exact ho3⟩, below_push (below_trans hbw (below_alloc _)) (ho.alloc _) hg3 (Nat.le_refl _)⟩
      case measure => simp [intOf]; omega
    · obtain rfl : k = n := by omega
      have E := Lib.hid (show (l.take k).map (·.code) = codes l by rw [List.take_of_length_le (by rw [HL.out]; exact Nat.le_refl _)]; rfl)
      clear ha
      go_wp2
      go_ret
      exact ⟨⟨_, _, rfl, by rw [← E.out]; exact ho⟩, hbw⟩


set_option maxRecDepth 100000 in
set_option maxHeartbeats 2000000 in
theorem goodBallots_any (A : Option Addr) (n c : Nat) (l : List BA) (B0 : Option Addr) (m d0 : Nat) (r : List Int) (w : World) (ha : Rd baV 2 w A n c l) (hb : Rd inV 1 w B0 m d0 r) (hn : n ≤ 1048576) :
    Calls Tryz.prog 80 #[.slice A n c, .slice B0 m d0] w fun e w' => (∃ B q d, e = .returned (.slice B q d) ∧ Own inV 1 w' w.heap.size 3 B q d (goodX l r)) ∧ Below w.heap.size w w' := by
  obtain ⟨i0, hi, hz0, hz1, hz2⟩ := info_parts Tryz.infoIn'
  have HL := Lib.hid ha.len
  go_enter Tryz.func80, Tryz.ntmps80
  go_wp2_with fail
  refine (codesOf_any _ _ _ l _ ha hn).mono ?_
  rintro e w1 ⟨⟨Bc, dc, rfl, oc⟩, b1⟩
  have oe := Own.empty inV 1 w1 3
  have rc := oc.rd inV_len
  clear oc
  go_wp2
  go_loopw [6, 14] (fun v i wr => ∃ k : Nat, k ≤ n ∧ i = .int .i64 k ∧ (∃ B q d, v = .slice B q d ∧ q ≤ k ∧ Own inV 1 wr w1.heap.size 3 B q d (fm (goodF l r) l k)) ∧ Below w1.heap.size w1 wr) (fun _ i _ => n - (intOf i).toNat)
  case atStart => exact ⟨0, Nat.zero_le _, rfl, ⟨_, 0, 0, rfl, Nat.le_refl _, oe⟩, below_alloc _⟩
  case round =>
    clear oe
    obtain ⟨k, hk, rfl, ⟨B, q, d, rfl, hq, ho⟩, hbw⟩ := hrel
    by_cases hlt : k < n
    · have hrr := hb.below (below_trans b1 hbw)
      have hcr := rc.below hbw
      obtain ⟨b3, o3, y, rfl, hs, c0⟩ := hcr.in hlt
      obtain ⟨x, hx⟩ : ∃ x, l[k]? = some x := ⟨_, List.getElem?_eq_getElem (by rw [HL.out]; exact hlt)⟩
      obtain rfl : x.code = y := by unfold codes at hs; rw [List.getElem?_map, hx] at hs; injection hs
      have HX := Lib.hid hx
      have HW := Lib.hid (cnt_without l x.code)
      clear hs hx ha hb rc
      go_wp2_with fail
      refine (contains_any _ _ _ r x.code _ hrr).mono ?_
      rintro e w2 ⟨rfl, rfl⟩
      cases h5 : r.contains x.code
      · have E := Lib.hid (fm_no (f := goodF l r) HX.out (show _ = none by unfold goodF; rw [h5]; rfl))
        clear hcr
        go_wp2
        go_roundw
        case rel => exact ⟨k + 1, by omega, by go_num, ⟨B, q, d, rfl, by omega, by rw [E.out]; exact ho⟩, hbw⟩
        case measure => simp [intOf]; omega
      have H5 := Lib.hid h5
      go_wp2_with fail
      refine (without_any _ _ _ (codes l) x.code _ hcr hn).mono ?_
      rintro e w2 ⟨⟨Bw, kw, dw, rfl, ow⟩, b2⟩
      have hbw2 := below_trans hbw b2
      have ho2 := ho.below b2
      have hkw := ow.len
      clear ow hcr h5
      by_cases h6 : cntTo l x.code l.length = 1
      · have h7 : (kw : Int) = (n : Int) - 1 := by have := HW.out; have := HL.out; omega
        have E := Lib.hid (fm_yes (f := goodF l r) HX.out (show _ = some (k : Int) by unfold goodF; rw [H5.out, decide_eq_true h6]; rfl))
        have h8 : ((kw : Int) == (n : Int) - 1) = true := by simpa using h7
        clear h6 h7 hkw
        go_wp2_with (at_builtin; refine wpList_push rfl _ _ _ rfl w1.heap.size 3 i0 (.int .i64 0) 1 8 Tryz.underlying33 hi hz0 hz1 hz2 rfl (by omega) inV inV_len one_int B q d _ rfl ho2 (k : Int) _ rfl _ rfl (by first | rfl | simp) (by simp only [maxLen]; omega) (by omega) hbw2.size ?_; intro B3 d3 w3 ho3 hg3)
        go_roundw
        case rel => exact ⟨k + 1, by omega, by go_num, ⟨B3, q + 1, d3, rfl, by omega, by rw [E.out]; exact ho3⟩, below_push hbw2 ho2 hg3 (Nat.le_refl _)⟩
        case measure => simp [intOf]; omega
      · have h7 : ¬((kw : Int) = (n : Int) - 1) := by have := HW.out; have := HL.out; omega
        have E := Lib.hid (fm_no (f := goodF l r) HX.out (show _ = none by unfold goodF; rw [decide_eq_false h6]; simp))
        have h8 : ((kw : Int) == (n : Int) - 1) = false := by simpa using h7
        clear h6 hkw
        go_wp2
        go_roundw
        case rel => exact ⟨k + 1, by omega, by go_num, ⟨B, q, d, rfl, by omega, by rw [E.out]; exact ho2⟩, hbw2⟩
        case measure => simp [intOf]; omega
    · obtain rfl : k = n := by omega
      have E := Lib.hid (show fm (goodF l r) l k = goodX l r by unfold goodX; rw [HL.out])
      clear ha hb rc
      go_wp2
      go_ret
      exact ⟨⟨_, _, _, rfl, by rw [← E.out]; exact ho.base_le b1.size⟩, below_trans b1 hbw⟩


set_option maxRecDepth 100000 in
set_option maxHeartbeats 2000000 in
theorem l20Good_any (A : Option Addr) (n c : Nat) (l : List BA) (B0 : Option Addr) (m d0 : Nat) (r : List Int) (w : World) (ha : Rd baV 2 w A n c l) (hb : Rd inV 1 w B0 m d0 r) (hn : n ≤ 1048576) :
    Calls Tryz.prog 57 #[.slice A n c, .slice B0 m d0] w fun e w' => (∃ B q d, e = .returned (.slice B q d) ∧ Own inV 1 w' w.heap.size 3 B q d (goodX l r)) ∧ Below w.heap.size w w' := by
  obtain ⟨i0, hi, hz0, hz1, hz2⟩ := info_parts Tryz.infoIn'
  have HL := Lib.hid ha.len
  have oe := Own.empty inV 1 w 3
  go_enter Tryz.func57, Tryz.ntmps57
  go_wp2
  go_loopw [5, 6] (fun v i wr => ∃ k : Nat, k ≤ n ∧ i = .int .i64 k ∧ (∃ B q d, v = .slice B q d ∧ q ≤ k ∧ Own inV 1 wr w.heap.size 3 B q d (fm (goodF l r) l k)) ∧ Below w.heap.size w wr) (fun _ i _ => n - (intOf i).toNat)
  case atStart => exact ⟨0, Nat.zero_le _, rfl, ⟨_, 0, 0, rfl, Nat.le_refl _, oe⟩, below_alloc _⟩
  case round =>
    clear oe
    obtain ⟨k, hk, rfl, ⟨B, q, d, rfl, hq, ho⟩, hbw⟩ := hrel
    by_cases hlt : k < n
    · obtain ⟨x, hx⟩ : ∃ x, l[k]? = some x := ⟨_, List.getElem?_eq_getElem (by rw [HL.out]; exact hlt)⟩
      have HX := Lib.hid hx
      clear hx
      go_wp2
      obtain ⟨wo, hwo⟩ : ∃ wo : World, wo = wr := ⟨_, rfl⟩
      subst hwo
      go_loopw [7, 8] (fun nv v wr => ∃ i : Nat, i ≤ n ∧ v = .int .i64 i ∧ nv = .int .i64 (cntTo l x.code i) ∧ Own inV 1 wr w.heap.size 3 B q d (fm (goodF l r) l k) ∧ Below w.heap.size w wr) (fun _ v _ => n - (intOf v).toNat)
      case atStart => exact ⟨0, Nat.zero_le _, rfl, rfl, ho, hbw⟩
      case round =>
        clear ho hbw
        obtain ⟨i, hi', rfl, rfl, ho, hbw⟩ := hrel
        have hcl := cnt_le l x.code i
        by_cases hin : i < n
        · have har := ha.below hbw
          obtain ⟨b3, o3, y, rfl, hy, c0, c1⟩ := har.ba hin
          obtain ⟨b4, o4, x', hA, hx', d0', d1'⟩ := har.ba hlt
          injection hA with hA
          injection hA with hA1 hA2
          subst hA1 hA2
          obtain rfl : x = x' := by rw [HX.out] at hx'; injection hx'
          have HY := Lib.hid hy
          have bq := fun nq => below_drewN (Below.refl wr.heap.size wr) nq
          have hi0 : (0 : Int) ≤ (i : Int) := by omega
          have hi1 : (i : Int) < (n : Int) := by omega
          have hk0 : (0 : Int) ≤ (k : Int) := by omega
          have hk1 : (k : Int) < (n : Int) := by omega
          clear hy hx' ha har hb
          cases h5 : (y.code == x.code)
          · have E := Lib.hid (cnt_no HY.out h5)
            go_wp2_with fail
            go_quiet (fail)
            go_wp2
            go_roundw
            case rel => exact ⟨i + 1, by omega, by go_num, by rw [E.out], ho.below (bq _), below_drewN hbw _⟩
            case measure => simp [intOf]; omega
          · have E := Lib.hid (cnt_yes HY.out h5)
            go_wp2_with fail
            go_quiet (fail)
            go_wp2
            go_roundw
            case rel => exact ⟨i + 1, by omega, by go_num, by rw [E.out]; go_num, ho.below (bq _), below_drewN hbw _⟩
            case measure => simp [intOf]; omega
        · obtain rfl : i = n := by omega
          obtain ⟨b3, o3, x', rfl, hx', c0, c1⟩ := (ha.below hbw).ba hlt
          obtain rfl : x = x' := by rw [HX.out] at hx'; injection hx'
          have hrr := hb.below hbw
          clear hx' ha hb
          by_cases h6 : cntTo l x.code i = 1
          · have h6' : ((cntTo l x.code i : Int) == 1) = true := by rw [h6]; rfl
            have H6 := Lib.hid h6
            clear h6
            go_wp2_with fail
            refine (l1Has_any _ _ _ r x.code _ hrr).mono ?_
            rintro e w2 ⟨rfl, rfl⟩
            cases h5 : r.contains x.code
            · have E := Lib.hid (fm_no (f := goodF l r) HX.out (show _ = none by unfold goodF; rw [h5]; rfl))
              go_wp2
              go_roundw
              case rel => exact ⟨k + 1, by omega, by go_num, ⟨B, q, d, rfl, by omega, by rw [E.out]; exact ho⟩, hbw⟩
              case measure => simp [intOf]; omega
            · have E := Lib.hid (fm_yes (f := goodF l r) HX.out (show _ = some (k : Int) by unfold goodF; rw [h5, HL.out, decide_eq_true H6.out]; rfl))
              go_wp2_with (at_builtin; refine wpList_push rfl _ _ _ rfl w.heap.size 3 i0 (.int .i64 0) 1 8 Tryz.underlying33 hi hz0 hz1 hz2 rfl (by omega) inV inV_len one_int B q d _ rfl ho (k : Int) _ rfl _ rfl (by first | rfl | simp) (by simp only [maxLen]; omega) (by omega) hbw.size ?_; intro B3 d3 w3 ho3 hg3)
              go_roundw
              case rel => exact ⟨k + 1, by omega, by go_num, ⟨B3, q + 1, d3, rfl, by omega, by rw [E.out]; exact ho3⟩, below_push hbw ho hg3 (Nat.le_refl _)⟩
              case measure => simp [intOf]; omega
          · have h6' : ((cntTo l x.code i : Int) == 1) = false := by simp; omega
            have E := Lib.hid (fm_no (f := goodF l r) HX.out (show _ = none by unfold goodF; rw [HL.out, decide_eq_false h6]; simp))
            clear h6
            go_wp2
            go_roundw
            case rel => exact ⟨k + 1, by omega, by go_num, ⟨B, q, d, rfl, by omega, by rw [E.out]; exact ho⟩, hbw⟩
            case measure => simp [intOf]; omega
    · obtain rfl : k = n := by omega
      have E := Lib.hid (show fm (goodF l r) l k = goodX l r by unfold goodX; rw [HL.out])
      clear ha hb
      go_wp2
      go_ret
      exact ⟨⟨_, _, _, rfl, by rw [← E.out]; exact ho⟩, hbw⟩


end Go.Proofs.YtcockjjilcapaaaGreatDoor
