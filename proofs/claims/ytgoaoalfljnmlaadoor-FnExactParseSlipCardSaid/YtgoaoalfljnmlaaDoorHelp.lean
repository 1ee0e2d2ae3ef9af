/-
  YtgoaoalfljnmlaaDoorHelp: the law file's own helpers (sz, to, eq, mark, held) at the element types Ballot: each by a contract. Printed by a program (wip/gen/help.py).
-/
import Derived.Test.YtgoaoalfljnmlaaDoorCommon
import Derived.Test.YtgoaoalfljnmlaaDoorRows
import Derived.WalkSpells
import Derived.WalkLawsBesides
import Derived.Deep.DeepMust
namespace Go.Proofs.YtgoaoalfljnmlaaDoor
open Go Go.RowKit Go.Sort
set_option linter.unusedVariables false
set_option maxRecDepth 100000

theorem bcell {W w1 : World} (hb : Below W.heap.size W w1) : (∀ b o, b < W.heap.size → w1.cell? ⟨b, o, none⟩ = W.cell? ⟨b, o, none⟩) ∧ (∀ b o, b < W.heap.size → w1.frozen? ⟨b, o, none⟩ = W.frozen? ⟨b, o, none⟩) :=
  ⟨fun b o h => hb.cell (p := ⟨b, o, none⟩) h, fun b o h => hb.frozen (p := ⟨b, o, none⟩) h⟩

/-- The mark of a bool. -/
def markB (k : Int) : Bool := (k % 3 == 0)

structure BA where
  code : Int
  ch : ByteArray
deriving DecidableEq
def baV (x : BA) : List Value := [.int .i64 x.code, .string x.ch]
theorem baV_len (x : BA) : (baV x).length = 2 := rfl
theorem Rd.ba {w : World} {A : Option Addr} {n c : Nat} {l : List BA} (h : Rd baV 2 w A n c l) {i : Nat} (hi : i < n) :
    ∃ b off x, A = some ⟨b, off, none⟩ ∧ l[i]? = some x ∧ w.cell? ⟨b, off + i * 2, none⟩ = some (.int .i64 x.code) ∧ w.cell? ⟨b, off + i * 2 + 1, none⟩ = some (.string x.ch) := by
  obtain ⟨b, off, e, hc⟩ := h.at_ (by omega)
  have hl : i < l.length := by have := h.len; omega
  exact ⟨b, off, l[i], e, List.getElem?_eq_getElem hl, hc i _ (List.getElem?_eq_getElem hl) 0 _ rfl, hc i _ (List.getElem?_eq_getElem hl) 1 _ rfl⟩

set_option maxHeartbeats 400000 in
theorem eqBallot_same (a0 : Int) (a1 : ByteArray) (w : World) :
    Calls Tryd.prog 11 #[.agg #[.int .i64 a0, .string a1], .agg #[.int .i64 a0, .string a1]] w fun e w' => e = .returned (.bool true) ∧ Below w.heap.size w w' := by
  go_enter Tryd.func11, Tryd.ntmps11
  go_wp2
  go_ret
  exact ⟨rfl, below_alloc2 _ _⟩

set_option maxHeartbeats 400000 in
theorem toBallot_any (a0 : Int) (a1 : ByteArray) (w : World) :
    Calls Tryd.prog 7 #[.agg #[.int .i64 a0, .string a1]] w fun e w' => e = .returned (.agg #[.int .i64 a0, .string a1]) ∧ Below w.heap.size w w' := by
  go_enter Tryd.func7, Tryd.ntmps7
  go_wp2
  refine bodyPost_ret (v := .agg #[.int .i64 a0, .string a1]) (by simp [results, Tryd.results7, go_sem]) rfl ⟨rfl, below_alloc3 _ _ _⟩

/-- What szX leaves: -1, or the size guard is met. -/
def szPBallot (x : BA) (left r : Int) : Prop := r = -1 ∨ (0 ≤ r ∧ r ≤ left ∧ (x.ch.size : Int) ≤ left)

set_option maxRecDepth 100000 in
set_option maxHeartbeats 1000000 in
theorem szBallot_any (a0 : Int) (a1 : ByteArray) (left : Int) (w : World) (h0 : 0 ≤ left) (h1 : left ≤ 1048576) (g1 : a1.size ≤ maxLen) :
    Calls Tryd.prog 5 #[.agg #[.int .i64 a0, .string a1], .int .i64 left] w fun e w' => (∃ r : Int, e = .returned (.int .i64 r) ∧ szPBallot ⟨a0, a1⟩ left r) ∧ Below w.heap.size w w' := by
  unfold maxLen at g1
  by_cases s1 : left - (a1.size : Int) < 0
  · go_enter Tryd.func5, Tryd.ntmps5
    go_wp2
    go_ret
    exact ⟨⟨_, rfl, .inl rfl⟩, below_alloc _⟩
  · skip
    go_enter Tryd.func5, Tryd.ntmps5
    go_wp2
    go_ret
    exact ⟨⟨_, rfl, .inr ⟨by omega, by omega, (by show (a1.size : Int) ≤ left; omega)⟩⟩, below_alloc _⟩

end Go.Proofs.YtgoaoalfljnmlaaDoor
