/-
  YtcockjjilcapaaaGreatBalF: ballots: BlankBallots, both sides. (Printed by wip/gen/balf.py.)
-/
import Derived.Test.YtcockjjilcapaaaGreatBalE
namespace Go.Proofs.YtcockjjilcapaaaGreat
open Go Go.RowKit Go.Sort
set_option linter.unusedVariables false

def emp (s : ByteArray) : Bool := s.toList.isEmpty
def empTo (ls : List ByteArray) (k : Nat) : Nat := ((ls.take k).filter emp).length
theorem empTo_yes {ls : List ByteArray} {k : Nat} {s : ByteArray} (hs : ls[k]? = some s) (h : emp s = true) : empTo ls (k + 1) = empTo ls k + 1 := by
  unfold empTo; rw [List.take_add_one, hs, List.filter_append]; simp [h]
theorem empTo_no {ls : List ByteArray} {k : Nat} {s : ByteArray} (hs : ls[k]? = some s) (h : emp s = false) : empTo ls (k + 1) = empTo ls k := by
  unfold empTo; rw [List.take_add_one, hs, List.filter_append]; simp [h]
theorem empTo_le (ls : List ByteArray) (k : Nat) : empTo ls k ≤ k := Nat.le_trans (List.length_filter_le _ _) (List.length_take_le _ _)
theorem empTo_all {ls : List ByteArray} {k : Nat} (h : ls.length = k) : empTo ls k = (ls.filter emp).length := by
  unfold empTo; rw [List.take_of_length_le (by omega)]
theorem emp_sort (ls : List ByteArray) : ((sortS ls).filter emp).length = (ls.filter emp).length := ((sortS_perm ls).filter emp).length_eq
def blaN (l : List BA) (r : List Int) : Int := if pollB l r then (((chL l r).filter emp).length : Nat) else 0
theorem blaN_no {l : List BA} {r : List Int} (h : pollB l r = false) : blaN l r = 0 := by simp [blaN, h]
theorem blaN_yes {l : List BA} {r : List Int} (h : pollB l r = true) : blaN l r = (((chL l r).filter emp).length : Nat) := by simp [blaN, h]
theorem chL_len (l : List BA) (r : List Int) : (chL l r).length ≤ l.length := by unfold chL; rw [List.length_map]; exact goodX_len l r

set_option maxRecDepth 100000 in
set_option maxHeartbeats 1000000 in
theorem implBlank_any (A : Option Addr) (n c : Nat) (l : List BA) (B0 : Option Addr) (m d0 : Nat) (r : List Int) (w : World) (ha : Rd baV 2 w A n c l) (hb : Rd inV 1 w B0 m d0 r) (hn : n ≤ 1048576) (hg : ∀ x ∈ l, BaSz x) :
    Calls Tryz.prog 11 #[.slice A n c, .slice B0 m d0] w fun e w' => e = .returned (.tuple #[.int .i64 (blaN l r), .bool (pollB l r)]) ∧ Below w.heap.size w w' := by
  have HL := Lib.hid ha.len
  go_enter Tryz.func11, Tryz.ntmps11
  go_wp2_with fail
  refine (isPoll_any _ _ _ _ _ _ _ _ _ ha hb hg).mono ?_
  rintro e w1 ⟨rfl, b1⟩
  cases h1 : pollB l r
  · have E := Lib.hid h1
    clear ha hb
    go_wp2
    go_ret2
    exact ⟨ret_int_bool (blaN_no E.out).symm E.out.symm, b1⟩
  have E := Lib.hid h1
  clear h1
  go_wp2_with fail
  refine (goodChoices_any _ _ _ l _ _ _ r _ (ha.below b1) (hb.below b1) hn).mono ?_
  rintro e w2 ⟨⟨B, q, d, rfl, o2⟩, b2⟩
  have hq : q ≤ n := by rw [← o2.len, sortS_len, ← HL.out]; exact chL_len l r
  have QL := Lib.hid o2.len
  have rs := o2.rd stV_len
  replace b2 := below_trans b1 b2
  clear ha hb o2 b1
  go_wp2
  go_loop [6, 17] (fun v i => ∃ k : Nat, k ≤ q ∧ i = .int .i64 k ∧ v = .int .i64 (empTo (sortS (chL l r)) k)) (fun _ i => q - (intOf i).toNat)
  case atStart => exact ⟨0, Nat.zero_le _, rfl, rfl⟩
  case round =>
    obtain ⟨k, hk, rfl, rfl⟩ := hrel
    have hel := empTo_le (sortS (chL l r)) k
    by_cases hlt : k < q
    · obtain ⟨b3, o3, s, rfl, hs, c0⟩ := rs.st hlt
      have HS := Lib.hid hs
      clear hs rs
      cases h5 : s.toList.isEmpty
      · have E2 := Lib.hid (empTo_no HS.out h5)
        go_wp2
        go_round
        case rel => exact ⟨k + 1, by omega, by go_num, by rw [E2.out]⟩
        case measure => simp [intOf]; omega
      · have E2 := Lib.hid (empTo_yes HS.out h5)
        go_wp2
        go_round
        case rel => exact ⟨k + 1, by omega, by go_num, by rw [E2.out]; go_num⟩
        case measure => simp [intOf]; omega
    · obtain rfl : k = q := by omega
      have E2 := Lib.hid (show (empTo (sortS (chL l r)) k : Int) = blaN l r by rw [blaN_yes E.out, empTo_all QL.out, emp_sort])
      clear rs
      go_wp2
      go_ret2
      exact ⟨ret_int_bool E2.out E.out.symm, b2⟩

set_option maxRecDepth 100000 in
set_option maxHeartbeats 1000000 in
theorem specBlank_any (A : Option Addr) (n c : Nat) (l : List BA) (B0 : Option Addr) (m d0 : Nat) (r : List Int) (w : World) (ha : Rd baV 2 w A n c l) (hb : Rd inV 1 w B0 m d0 r) (hn : n ≤ 1048576) (hg : ∀ x ∈ l, BaSz x) :
    Calls Tryz.prog 13 #[.slice A n c, .slice B0 m d0] w fun e w' => e = .returned (.tuple #[.int .i64 (blaN l r), .bool (pollB l r)]) ∧ Below w.heap.size w w' := by
  have HL := Lib.hid ha.len
  go_enter Tryz.func13, Tryz.ntmps13
  go_wp2_with fail
  refine (l20Asked_any _ _ _ _ _ _ _ _ _ ha hb hg).mono ?_
  rintro e w1 ⟨rfl, b1⟩
  cases h1 : pollB l r
  · have E := Lib.hid h1
    clear ha hb
    go_wp2
    go_ret2
    exact ⟨ret_int_bool (blaN_no E.out).symm E.out.symm, b1⟩
  have E := Lib.hid h1
  clear h1
  go_wp2_with fail
  refine (l20Good_any _ _ _ l _ _ _ r _ (ha.below b1) (hb.below b1) hn).mono ?_
  rintro e w2 ⟨⟨B, q, d, rfl, o2⟩, b2⟩
  have hq : q ≤ n := by rw [← o2.len, ← HL.out]; exact goodX_len l r
  have QL := Lib.hid o2.len
  have rg := o2.rd inV_len
  replace b2 := below_trans b1 b2
  replace ha := ha.below b2
  clear hb o2 b1
  go_wp2
  go_loop [6, 8] (fun v i => ∃ k : Nat, k ≤ q ∧ i = .int .i64 k ∧ v = .int .i64 (empTo (chL l r) k)) (fun _ i => q - (intOf i).toNat)
  case atStart => exact ⟨0, Nat.zero_le _, rfl, rfl⟩
  case round =>
    obtain ⟨k, hk, rfl, rfl⟩ := hrel
    have hel := empTo_le (chL l r) k
    by_cases hlt : k < q
    · obtain ⟨b4, o4, y, rfl, hy, d1⟩ := rg.in hlt
      obtain ⟨i, x, rfl, hx, hch⟩ := goodX_at hy
      have hil : i < n := by rw [← HL.out]; exact (List.getElem?_eq_some_iff.1 hx).1
      obtain ⟨b3, o3, x', rfl, hx', c0, c1⟩ := ha.ba hil
      obtain rfl : x = x' := by rw [hx] at hx'; injection hx'
      have HS : Hid ((chL l r)[k]? = some x.ch) := by unfold chL; rw [List.getElem?_map, hy, Option.map_some, hch]; exact rfl
      clear hx' hx hy hch ha rg
      cases h5 : x.ch.toList.isEmpty
      · have E2 := Lib.hid (empTo_no HS.out h5)
        go_wp2
        go_round
        case rel => exact ⟨k + 1, by omega, by go_num, by rw [E2.out]⟩
        case measure => simp [intOf]; omega
      · have E2 := Lib.hid (empTo_yes HS.out h5)
        go_wp2
        go_round
        case rel => exact ⟨k + 1, by omega, by go_num, by rw [E2.out]; go_num⟩
        case measure => simp [intOf]; omega
    · obtain rfl : k = q := by omega
      have E2 := Lib.hid (show (empTo (chL l r) k : Int) = blaN l r by rw [blaN_yes E.out, empTo_all (by unfold chL; rw [List.length_map]; exact QL.out)])
      clear ha rg
      go_wp2
      go_ret2
      exact ⟨ret_int_bool E2.out E.out.symm, b2⟩

end Go.Proofs.YtcockjjilcapaaaGreat

