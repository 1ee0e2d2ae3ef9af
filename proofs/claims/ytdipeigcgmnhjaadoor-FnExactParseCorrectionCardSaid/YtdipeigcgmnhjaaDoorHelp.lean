/-
  YtdipeigcgmnhjaaDoorHelp: the law file's own helpers (sz, to, eq, mark, held) at the element types Correction: each by a contract. Printed by a program (wip/gen/help.py).
-/
import Derived.Test.YtdipeigcgmnhjaaDoorCommon
import Derived.Test.YtdipeigcgmnhjaaDoorRows
import Derived.WalkSpells
import Derived.WalkLawsBesides
import Derived.Deep.DeepMust
namespace Go.Proofs.YtdipeigcgmnhjaaDoor
open Go Go.RowKit Go.Sort
set_option linter.unusedVariables false
set_option maxRecDepth 100000

theorem bcell {W w1 : World} (hb : Below W.heap.size W w1) : (∀ b o, b < W.heap.size → w1.cell? ⟨b, o, none⟩ = W.cell? ⟨b, o, none⟩) ∧ (∀ b o, b < W.heap.size → w1.frozen? ⟨b, o, none⟩ = W.frozen? ⟨b, o, none⟩) :=
  ⟨fun b o h => hb.cell (p := ⟨b, o, none⟩) h, fun b o h => hb.frozen (p := ⟨b, o, none⟩) h⟩

/-- The mark of a bool. -/
def markB (k : Int) : Bool := (k % 3 == 0)

structure CO where
  line : Int
  old : ByteArray
  new : ByteArray
deriving DecidableEq
def coV (x : CO) : List Value := [.int .i64 x.line, .string x.old, .string x.new]
theorem coV_len (x : CO) : (coV x).length = 3 := rfl
theorem Rd.co {w : World} {A : Option Addr} {n c : Nat} {l : List CO} (h : Rd coV 3 w A n c l) {i : Nat} (hi : i < n) :
    ∃ b off x, A = some ⟨b, off, none⟩ ∧ l[i]? = some x ∧ w.cell? ⟨b, off + i * 3, none⟩ = some (.int .i64 x.line) ∧ w.cell? ⟨b, off + i * 3 + 1, none⟩ = some (.string x.old) ∧ w.cell? ⟨b, off + i * 3 + 2, none⟩ = some (.string x.new) := by
  obtain ⟨b, off, e, hc⟩ := h.at_ (by omega)
  have hl : i < l.length := by have := h.len; omega
  exact ⟨b, off, l[i], e, List.getElem?_eq_getElem hl, hc i _ (List.getElem?_eq_getElem hl) 0 _ rfl, hc i _ (List.getElem?_eq_getElem hl) 1 _ rfl, hc i _ (List.getElem?_eq_getElem hl) 2 _ rfl⟩

set_option maxHeartbeats 400000 in
theorem eqCorrection_same (a0 : Int) (a1 : ByteArray) (a2 : ByteArray) (w : World) :
    Calls Tryd.prog 11 #[.agg #[.int .i64 a0, .string a1, .string a2], .agg #[.int .i64 a0, .string a1, .string a2]] w fun e w' => e = .returned (.bool true) ∧ Below w.heap.size w w' := by
  go_enter Tryd.func11, Tryd.ntmps11
  go_wp2
  go_ret
  exact ⟨rfl, below_alloc2 _ _⟩

set_option maxHeartbeats 400000 in
theorem toCorrection_any (a0 : Int) (a1 : ByteArray) (a2 : ByteArray) (w : World) :
    Calls Tryd.prog 7 #[.agg #[.int .i64 a0, .string a1, .string a2]] w fun e w' => e = .returned (.agg #[.int .i64 a0, .string a1, .string a2]) ∧ Below w.heap.size w w' := by
  go_enter Tryd.func7, Tryd.ntmps7
  go_wp2
  refine bodyPost_ret (v := .agg #[.int .i64 a0, .string a1, .string a2]) (by simp [results, Tryd.results7, go_sem]) rfl ⟨rfl, below_alloc3 _ _ _⟩

/-- What szX leaves: -1, or the size guard is met. -/
def szPCorrection (x : CO) (left r : Int) : Prop := r = -1 ∨ (0 ≤ r ∧ r ≤ left ∧ (x.old.size : Int) ≤ left ∧ (x.new.size : Int) ≤ left)

set_option maxRecDepth 100000 in
set_option maxHeartbeats 1000000 in
theorem szCorrection_any (a0 : Int) (a1 : ByteArray) (a2 : ByteArray) (left : Int) (w : World) (h0 : 0 ≤ left) (h1 : left ≤ 1048576) (g1 : a1.size ≤ maxLen) (g2 : a2.size ≤ maxLen) :
    Calls Tryd.prog 5 #[.agg #[.int .i64 a0, .string a1, .string a2], .int .i64 left] w fun e w' => (∃ r : Int, e = .returned (.int .i64 r) ∧ szPCorrection ⟨a0, a1, a2⟩ left r) ∧ Below w.heap.size w w' := by
  unfold maxLen at g1 g2
  by_cases s1 : left - (a1.size : Int) < 0
  · go_enter Tryd.func5, Tryd.ntmps5
    go_wp2
    go_ret
    exact ⟨⟨_, rfl, .inl rfl⟩, below_alloc _⟩
  · skip
    by_cases s2 : left - (a1.size : Int) - (a2.size : Int) < 0
    · go_enter Tryd.func5, Tryd.ntmps5
      go_wp2
      go_ret
      exact ⟨⟨_, rfl, .inl rfl⟩, below_alloc _⟩
    · skip
      go_enter Tryd.func5, Tryd.ntmps5
      go_wp2
      go_ret
      exact ⟨⟨_, rfl, .inr ⟨by omega, by omega, (by show (a1.size : Int) ≤ left; omega), (by show (a2.size : Int) ≤ left; omega)⟩⟩, below_alloc _⟩

end Go.Proofs.YtdipeigcgmnhjaaDoor
