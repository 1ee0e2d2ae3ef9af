/-
  YtcockjjilcapaaaGreatBalH: ballots: StrayCodes of the reference. (Printed by wip/gen/balh.py.)
-/
import Derived.Test.YtcockjjilcapaaaGreatBalG
import Derived.Test.YtcockjjilcapaaaGreatPut
namespace Go.Proofs.YtcockjjilcapaaaGreat
open Go Go.RowKit Go.Sort
set_option linter.unusedVariables false

def strTo (l : List BA) (r : List Int) (k : Nat) : List Int := putAll (((l.take k).map (·.code)).filter fun x => !r.contains x)
theorem strTo_yes {l : List BA} {r : List Int} {k : Nat} {x : BA} (hx : l[k]? = some x) (h : r.contains x.code = true) : strTo l r (k + 1) = strTo l r k := by
  unfold strTo; rw [codes_snoc hx, List.filter_append]; simp only [List.filter_cons, List.filter_nil, h, Bool.not_true, Bool.false_eq_true, if_false, List.append_nil]
theorem strTo_no {l : List BA} {r : List Int} {k : Nat} {x : BA} (hx : l[k]? = some x) (h : r.contains x.code = false) : strTo l r (k + 1) = putZ x.code (strTo l r k) := by
  unfold strTo; rw [codes_snoc hx, List.filter_append]; simp only [List.filter_cons, List.filter_nil, h, Bool.not_false, if_true]; rw [putAll_snoc]
theorem putZ_len (x : Int) : ∀ l : List Int, (putZ x l).length ≤ l.length + 1
  | [] => by simp [putZ]
  | y :: t => by
    unfold putZ
    split
    · have := putZ_len x t; simp only [List.length_cons]; omega
    · split <;> simp
theorem strTo_len {l : List BA} {r : List Int} : ∀ k, (strTo l r k).length ≤ k
  | 0 => by simp [strTo, putAll]
  | k + 1 => by
    have := strTo_len (l := l) (r := r) k
    cases hx : l[k]? with
    | none => unfold strTo at *; rw [List.take_add_one, hx]; simp at *; omega
    | some x =>
      cases h : r.contains x.code
      · rw [strTo_no hx h]; have := putZ_len x.code (strTo l r k); omega
      · rw [strTo_yes hx h]; omega
theorem strTo_all {l : List BA} {r : List Int} {n : Nat} (h : l.length = n) : strTo l r n = strX l r := by
  unfold strTo strX codes
  rw [List.take_of_length_le (by omega)]
  exact (compact_sort _).symm

set_option maxRecDepth 100000 in
set_option maxHeartbeats 1000000 in
theorem specStray_any (A : Option Addr) (n c : Nat) (l : List BA) (B0 : Option Addr) (m d0 : Nat) (r : List Int) (w : World) (ha : Rd baV 2 w A n c l) (hb : Rd inV 1 w B0 m d0 r) (hn : n ≤ 1048576) (hg : ∀ x ∈ l, BaSz x) :
    Calls Tryz.prog 18 #[.slice A n c, .slice B0 m d0] w fun e w' => (∃ B q d, e = .returned (.tuple #[.slice B q d, .bool (pollB l r)]) ∧ Own inV 1 w' w.heap.size 3 B q d (strL l r)) ∧ Below w.heap.size w w' := by
  have HL := Lib.hid ha.len
  have oe := Own.empty inV 1 w 3
  have b0 := below_alloc (w := w) (.cells #[] 3)
  go_enter Tryz.func18, Tryz.ntmps18
  go_wp2_with fail
  generalize hgw0 : w.alloc (.cells #[] 3) = w0 at *
  clear hgw0
  refine (l20Asked_any _ _ _ _ _ _ _ _ _ (ha.below b0) (hb.below b0) hg).mono ?_
  rintro e w1 ⟨rfl, b1⟩
  replace oe := oe.below b1
  have t1 := below_trans b0 b1
  cases h1 : pollB l r
  · have E := Lib.hid h1
    clear ha hb
    go_wp2
    go_ret2
    exact ⟨⟨_, _, _, ret_sl_bool E.out.symm, by rw [strL_no E.out]; exact oe⟩, t1⟩
  have E := Lib.hid h1
  clear h1 b0 b1
  go_wp2
  go_loopw [6, 7] (fun v i wr => ∃ k : Nat, k ≤ n ∧ i = .int .i64 k ∧ (∃ B q d, v = .slice B q d ∧ Own inV 1 wr w.heap.size 3 B q d (strTo l r k)) ∧ Below w.heap.size w wr) (fun _ i _ => n - (intOf i).toNat)
  case atStart => exact ⟨0, Nat.zero_le _, rfl, ⟨_, 0, 0, rfl, oe⟩, t1⟩
  case round =>
    clear oe t1
    obtain ⟨k, hk, rfl, ⟨B, q, d, rfl, ho⟩, hbw⟩ := hrel
    by_cases hlt : k < n
    · obtain ⟨b3, o3, x, rfl, hx, c0, c1⟩ := (ha.below hbw).ba hlt
      have HX := Lib.hid hx
      have HO := Lib.hid ho
      have hq : q ≤ 1048576 := by rw [← ho.len]; have := strTo_len (l := l) (r := r) k; omega
      have hbb := hb.below hbw
      clear hx ha ho hb
      go_wp2_with fail
      refine (l1Has_any _ _ _ r _ _ hbb).mono ?_
      rintro e w2 ⟨rfl, rfl⟩
      cases h5 : r.contains x.code
      · have S := Lib.hid (strTo_no HX.out h5)
        clear h5
        go_wp2_with fail
        refine (l1Put_any _ _ _ w.heap.size _ _ _ HO.out hq hbw.size).mono ?_
        rintro e w3 ⟨⟨B2, q2, d2, rfl, o2⟩, b2⟩
        have O2 := Lib.hid o2
        clear o2
        go_wp2
        go_roundw
        case rel => exact ⟨k + 1, by omega, by go_num, ⟨B2, q2, d2, rfl, by rw [S.out]; exact O2.out⟩, below_trans hbw b2⟩
        case measure => simp [intOf]; omega
      · have S := Lib.hid (strTo_yes HX.out h5)
        clear h5
        go_wp2
        go_roundw
        case rel => exact ⟨k + 1, by omega, by go_num, ⟨B, q, d, rfl, by rw [S.out]; exact HO.out⟩, hbw⟩
        case measure => simp [intOf]; omega
    · obtain rfl : k = n := by omega
      have HO := Lib.hid ho
      have SA := Lib.hid (strTo_all (r := r) HL.out)
      clear ha hb ho
      go_wp2
      go_ret2
      exact ⟨⟨_, _, _, ret_sl_bool E.out.symm, by rw [strL_yes E.out, ← SA.out]; exact HO.out⟩, hbw⟩

end Go.Proofs.YtcockjjilcapaaaGreat
