/-
  YtcockjjilcapaaaGreatDoorBalK: ballots: CountChoices and LeadingChoice, both sides. (Printed by wip/gen/balk.py.)
-/
import Derived.Test.YtcockjjilcapaaaGreatDoorBalJ
namespace Go.Proofs.YtcockjjilcapaaaGreatDoor
open Go Go.RowKit Go.Sort
set_option linter.unusedVariables false

/-- The choices of the good ballots and their numbers. -/
def couL (l : List BA) (r : List Int) : List PR := if pollB l r then cntP (chL l r) else []
theorem couL_no {l : List BA} {r : List Int} (h : pollB l r = false) : couL l r = [] := by simp [couL, h]
theorem couL_yes {l : List BA} {r : List Int} (h : pollB l r = true) : couL l r = cntP (chL l r) := by simp [couL, h]
theorem couL_len (l : List BA) (r : List Int) : (couL l r).length ≤ l.length := by
  unfold couL; split
  · exact Nat.le_trans (cnt_len _) (chL_len l r)
  · simp
theorem ret_sl2_bool {A1 A2 : Option Addr} {n1 c1 n2 c2 : Nat} {b d : Bool} (h : b = d) : Ending.returned (.tuple #[.slice A1 n1 c1, .slice A2 n2 c2, .bool b]) = .returned (.tuple #[.slice A1 n1 c1, .slice A2 n2 c2, .bool d]) := by rw [h]


set_option maxRecDepth 100000 in
set_option maxHeartbeats 1000000 in
theorem implCount_any (A : Option Addr) (n c : Nat) (l : List BA) (B0 : Option Addr) (m d0 : Nat) (r : List Int) (w : World) (ha : Rd baV 2 w A n c l) (hb : Rd inV 1 w B0 m d0 r) (hn : n ≤ 1048576) (hg : ∀ x ∈ l, BaSz x) :
    Calls Tryz.prog 14 #[.slice A n c, .slice B0 m d0] w fun e w' => (∃ A1 q d1 A2 d2, e = .returned (.tuple #[.slice A1 q d1, .slice A2 q d2, .bool (pollB l r)]) ∧ Own stV 1 w' w.heap.size 9 A1 q d1 ((couL l r).map Prod.fst) ∧ Own inV 1 w' w.heap.size 3 A2 q d2 ((couL l r).map Prod.snd)) ∧ Below w.heap.size w w' := by
  go_enter Tryz.func14, Tryz.ntmps14
  go_wp2_with fail
  refine (isPoll_any _ _ _ _ _ _ _ _ _ ha hb hg).mono ?_
  rintro e w1 ⟨rfl, b1⟩
  cases h1 : pollB l r
  · have E := Lib.hid h1
    clear ha hb
    go_wp2
    go_ret3
    exact ⟨⟨_, _, _, _, _, ret_sl2_bool E.out.symm, by rw [couL_no E.out]; exact Own.nil _ _ _, by rw [couL_no E.out]; exact Own.nil _ _ _⟩, b1⟩
  have E := Lib.hid h1
  clear h1
  go_wp2_with fail
  refine (countChoices_any _ _ _ l _ _ _ r _ (ha.below b1) (hb.below b1) hn).mono ?_
  rintro e w2 ⟨⟨A1, q, d1, A2, d2, rfl, o1, o2⟩, b2⟩
  have O1 := Lib.hid o1
  have O2 := Lib.hid o2
  clear ha hb o1 o2
  go_wp2
  go_ret3
  exact ⟨⟨_, _, _, _, _, ret_sl2_bool E.out.symm, by rw [couL_yes E.out]; exact O1.out.base_le b1.size, by rw [couL_yes E.out]; exact O2.out.base_le b1.size⟩, below_trans b1 b2⟩


end Go.Proofs.YtcockjjilcapaaaGreatDoor
