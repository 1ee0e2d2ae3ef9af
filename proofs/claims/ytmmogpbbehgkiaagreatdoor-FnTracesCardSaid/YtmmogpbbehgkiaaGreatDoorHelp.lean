/-
  YtmmogpbbehgkiaaGreatDoorHelp: the law file's own helpers (sz, to, eq, mark, held) at the element types TraceStep Int: each by a contract. Printed by a program (wip/gen/help.py).
-/
import Derived.Test.YtmmogpbbehgkiaaGreatDoorCommon
import Derived.Test.YtmmogpbbehgkiaaGreatDoorRows
import Derived.WalkSpells
import Derived.WalkLawsBesides
import Derived.Deep.DeepMust
namespace Go.Proofs.YtmmogpbbehgkiaaGreatDoor
open Go Go.RowKit Go.Sort
set_option linter.unusedVariables false
set_option maxRecDepth 100000

theorem bcell {W w1 : World} (hb : Below W.heap.size W w1) : (∀ b o, b < W.heap.size → w1.cell? ⟨b, o, none⟩ = W.cell? ⟨b, o, none⟩) ∧ (∀ b o, b < W.heap.size → w1.frozen? ⟨b, o, none⟩ = W.frozen? ⟨b, o, none⟩) :=
  ⟨fun b o h => hb.cell (p := ⟨b, o, none⟩) h, fun b o h => hb.frozen (p := ⟨b, o, none⟩) h⟩

/-- The mark of a bool. -/
def markB (k : Int) : Bool := (k % 3 == 0)

structure TS where
  m : Int
  k : Int
deriving DecidableEq
def tsV (x : TS) : List Value := [.int .i64 x.m, .int .i64 x.k]
theorem tsV_len (x : TS) : (tsV x).length = 2 := rfl
theorem Rd.ts {w : World} {A : Option Addr} {n c : Nat} {l : List TS} (h : Rd tsV 2 w A n c l) {i : Nat} (hi : i < n) :
    ∃ b off x, A = some ⟨b, off, none⟩ ∧ l[i]? = some x ∧ w.cell? ⟨b, off + i * 2, none⟩ = some (.int .i64 x.m) ∧ w.cell? ⟨b, off + i * 2 + 1, none⟩ = some (.int .i64 x.k) := by
  obtain ⟨b, off, e, hc⟩ := h.at_ (by omega)
  have hl : i < l.length := by have := h.len; omega
  exact ⟨b, off, l[i], e, List.getElem?_eq_getElem hl, hc i _ (List.getElem?_eq_getElem hl) 0 _ rfl, hc i _ (List.getElem?_eq_getElem hl) 1 _ rfl⟩

theorem Tryz.infots : (Tryz.prog.info? 31).map (fun i => (i.zero, i.size, i.bytes)) = some (some (.agg #[.int .i64 0, .int .i64 0]), 2, 16) := by kernel_rfl

def inV (x : Int) : List Value := [.int .i64 x]
theorem inV_len (x : Int) : (inV x).length = 1 := rfl
theorem Rd.in {w : World} {A : Option Addr} {n c : Nat} {l : List Int} (h : Rd inV 1 w A n c l) {i : Nat} (hi : i < n) :
    ∃ b off x, A = some ⟨b, off, none⟩ ∧ l[i]? = some x ∧ w.cell? ⟨b, off + i, none⟩ = some (.int .i64 x) := by
  obtain ⟨b, off, e, hc⟩ := h.at_ (by omega)
  have hl : i < l.length := by have := h.len; omega
  exact ⟨b, off, l[i], e, List.getElem?_eq_getElem hl, by simpa using hc i _ (List.getElem?_eq_getElem hl) 0 _ rfl⟩

theorem Tryz.infoin : (Tryz.prog.info? 3).map (fun i => (i.zero, i.size, i.bytes)) = some (some (.int .i64 0), 1, 8) := by kernel_rfl

end Go.Proofs.YtmmogpbbehgkiaaGreatDoor
