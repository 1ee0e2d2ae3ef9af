/-
  YtcockjjilcapaaaGreatBalG: ballots: StrayCodes, the program's side. (Printed by wip/gen/balg.py.)
-/
import Derived.Test.YtcockjjilcapaaaGreatBalE
namespace Go.Proofs.YtcockjjilcapaaaGreat
open Go Go.RowKit Go.Sort
set_option linter.unusedVariables false

/-- The codes of the box that are not on the roll, in order, each once. -/
def strX (l : List BA) (r : List Int) : List Int := Lib.compact (sortI ((codes l).filter fun x => !r.contains x))
def strL (l : List BA) (r : List Int) : List Int := if pollB l r then strX l r else []
theorem strL_no {l : List BA} {r : List Int} (h : pollB l r = false) : strL l r = [] := by simp [strL, h]
theorem strL_yes {l : List BA} {r : List Int} (h : pollB l r = true) : strL l r = strX l r := by simp [strL, h]
theorem strL_len (l : List BA) (r : List Int) : (strL l r).length ≤ l.length := by
  unfold strL
  split
  · refine Nat.le_trans (Lib.compact_length_le _) ?_
    rw [sortI_len]
    refine Nat.le_trans (List.length_filter_le _ _) ?_
    simp [codes]
  · simp

set_option maxRecDepth 100000 in
theorem isOn_any (x : Int) (q : Nat) (Bc : Option Addr) (n dc : Nat) (cs : List Int) (w : World) (hq : w.cell? ⟨q, 0, none⟩ = some (.slice Bc n dc)) (hc : Rd inV 1 w Bc n dc cs) :
    FnGives Tryz.prog 40 #[.pointer (some ⟨q, 0, none⟩)] #[.int .i64 x] (.bool (cs.contains x)) w := by
  show Calls Tryz.prog 40 #[.int .i64 x, .pointer (some ⟨q, 0, none⟩)] w _
  go_enter Tryz.func40, Tryz.ntmps40
  go_wp2_with fail
  refine (contains_any _ _ _ cs x _ hc).mono ?_
  rintro e w1 ⟨rfl, rfl⟩
  go_wp2
  go_ret
  exact ⟨by first | rfl | simp, 0, rfl⟩

set_option maxRecDepth 100000 in
set_option maxHeartbeats 1000000 in
theorem implStray_any (A : Option Addr) (n c : Nat) (l : List BA) (B0 : Option Addr) (m d0 : Nat) (r : List Int) (w : World) (ha : Rd baV 2 w A n c l) (hb : Rd inV 1 w B0 m d0 r) (hn : n ≤ 1048576) (hg : ∀ x ∈ l, BaSz x) :
    Calls Tryz.prog 16 #[.slice A n c, .slice B0 m d0] w fun e w' => (∃ B q d, e = .returned (.tuple #[.slice B q d, .bool (pollB l r)]) ∧ Own inV 1 w' w.heap.size 3 B q d (strL l r)) ∧ Below w.heap.size w w' := by
  have eg : ∀ args w, (callFunc 40 args).run Tryz.prog w = .ok (.enter 40 args) w := enters_of Tryz.func40 (by kernel_rfl) rfl
  have b0 := below_alloc (w := w) (.cells #[.slice B0 m d0] 25)
  have q0 : (w.alloc (.cells #[.slice B0 m d0] 25)).cell? ⟨w.heap.size, 0, none⟩ = some (.slice B0 m d0) := cell_of_row _ _ 0 _ _ _ (heap_new rfl)
  go_enter Tryz.func16, Tryz.ntmps16
  go_wp2_with fail
  generalize hw0 : w.alloc (.cells #[.slice B0 m d0] 25) = w0 at *
  clear hw0
  have hb0 := hb.below b0
  refine (isPoll_any _ _ _ _ _ _ _ _ _ (ha.below b0) hb0 hg).mono ?_
  rintro e w1 ⟨rfl, b1⟩
  have q1 := cell_below b1 q0
  cases h1 : pollB l r
  · have E := Lib.hid h1
    clear ha hb hb0
    go_wp2
    go_ret2
    exact ⟨⟨_, _, _, ret_sl_bool E.out.symm, by rw [strL_no E.out]; exact Own.nil _ _ _⟩, below_trans b0 b1⟩
  have E := Lib.hid h1
  go_wp2_with fail
  refine (codesOf_any _ _ _ l _ ((ha.below b0).below b1) hn).mono ?_
  rintro e w2 ⟨⟨Bc, dc, rfl, oc⟩, b2⟩
  have hb1 := hb0.below b1
  clear h1
  go_wp2_with fail
  refine (del_any Bc n dc w1.heap.size w1.heap.size 40 (codes l) _ (fun x => r.contains x) w1 _ oc (Nat.le_refl _) (Nat.le_refl _) b2 eg (fun W x hbb => isOn_any x w.heap.size B0 m d0 r W (cell_below hbb q1) (hb1.below hbb))).mono ?_
  rintro e w3 ⟨⟨k, rfl, o3⟩, b3⟩
  have hk : k ≤ n := by rw [← o3.len, ← oc.len]; exact List.length_filter_le _ _
  clear oc b2
  go_wp2_with fail
  refine (sortI_any Bc k dc w1.heap.size w1.heap.size _ w1 _ o3 (Nat.le_refl _) (Nat.le_refl _) b3 (by omega)).mono ?_
  rintro e w4 ⟨rfl, o4, b4⟩
  go_wp2_with fail
  refine (compactI_any Bc k dc w1.heap.size w1.heap.size _ w1 _ o4 (Nat.le_refl _) (Nat.le_refl _) b4).mono ?_
  rintro e w5 ⟨⟨k2, rfl, o5⟩, b5⟩
  have t1 := below_trans b0 b1
  clear ha hb hb0 hb1
  go_wp2
  go_ret2
  exact ⟨⟨_, _, _, ret_sl_bool E.out.symm, by rw [strL_yes E.out]; exact o5.base_le t1.size⟩, below_trans t1 b5⟩

end Go.Proofs.YtcockjjilcapaaaGreat

