/-
  YtcockjjilcapaaaGreatDoorHelp: the law file's own helpers (sz, to, eq, mark, held) at the element types Ballot Int String: each by a contract. Printed by a program (wip/gen/help.py).
-/
import Derived.Test.YtcockjjilcapaaaGreatDoorCommon
import Derived.Test.YtcockjjilcapaaaGreatDoorRows
import Derived.WalkSpells
import Derived.WalkLawsBesides
import Derived.Deep.DeepMust
namespace Go.Proofs.YtcockjjilcapaaaGreatDoor
open Go Go.RowKit Go.Sort
set_option linter.unusedVariables false
set_option maxRecDepth 100000

theorem bcell {W w1 : World} (hb : Below W.heap.size W w1) : (∀ b o, b < W.heap.size → w1.cell? ⟨b, o, none⟩ = W.cell? ⟨b, o, none⟩) ∧ (∀ b o, b < W.heap.size → w1.frozen? ⟨b, o, none⟩ = W.frozen? ⟨b, o, none⟩) :=
  ⟨fun b o h => hb.cell (p := ⟨b, o, none⟩) h, fun b o h => hb.frozen (p := ⟨b, o, none⟩) h⟩

/-- The mark of a bool. -/
def markB (k : Int) : Bool := (k % 3 == 0)

structure BA where
  code : Int
  ch : ByteArray
deriving DecidableEq
def baV (x : BA) : List Value := [.int .i64 x.code, .string x.ch]
theorem baV_len (x : BA) : (baV x).length = 2 := rfl
theorem Rd.ba {w : World} {A : Option Addr} {n c : Nat} {l : List BA} (h : Rd baV 2 w A n c l) {i : Nat} (hi : i < n) :
    ∃ b off x, A = some ⟨b, off, none⟩ ∧ l[i]? = some x ∧ w.cell? ⟨b, off + i * 2, none⟩ = some (.int .i64 x.code) ∧ w.cell? ⟨b, off + i * 2 + 1, none⟩ = some (.string x.ch) := by
  obtain ⟨b, off, e, hc⟩ := h.at_ (by omega)
  have hl : i < l.length := by have := h.len; omega
  exact ⟨b, off, l[i], e, List.getElem?_eq_getElem hl, hc i _ (List.getElem?_eq_getElem hl) 0 _ rfl, hc i _ (List.getElem?_eq_getElem hl) 1 _ rfl⟩

theorem Tryz.infoba : (Tryz.prog.info? 25).map (fun i => (i.zero, i.size, i.bytes)) = some (some (.agg #[.int .i64 0, .string ByteArray.empty]), 2, 24) := by kernel_rfl

def inV (x : Int) : List Value := [.int .i64 x]
theorem inV_len (x : Int) : (inV x).length = 1 := rfl
theorem Rd.in {w : World} {A : Option Addr} {n c : Nat} {l : List Int} (h : Rd inV 1 w A n c l) {i : Nat} (hi : i < n) :
    ∃ b off x, A = some ⟨b, off, none⟩ ∧ l[i]? = some x ∧ w.cell? ⟨b, off + i, none⟩ = some (.int .i64 x) := by
  obtain ⟨b, off, e, hc⟩ := h.at_ (by omega)
  have hl : i < l.length := by have := h.len; omega
  exact ⟨b, off, l[i], e, List.getElem?_eq_getElem hl, by simpa using hc i _ (List.getElem?_eq_getElem hl) 0 _ rfl⟩

theorem Tryz.infoin : (Tryz.prog.info? 3).map (fun i => (i.zero, i.size, i.bytes)) = some (some (.int .i64 0), 1, 8) := by kernel_rfl

def stV (x : ByteArray) : List Value := [.string x]
theorem stV_len (x : ByteArray) : (stV x).length = 1 := rfl
theorem Rd.st {w : World} {A : Option Addr} {n c : Nat} {l : List ByteArray} (h : Rd stV 1 w A n c l) {i : Nat} (hi : i < n) :
    ∃ b off x, A = some ⟨b, off, none⟩ ∧ l[i]? = some x ∧ w.cell? ⟨b, off + i, none⟩ = some (.string x) := by
  obtain ⟨b, off, e, hc⟩ := h.at_ (by omega)
  have hl : i < l.length := by have := h.len; omega
  exact ⟨b, off, l[i], e, List.getElem?_eq_getElem hl, by simpa using hc i _ (List.getElem?_eq_getElem hl) 0 _ rfl⟩

theorem Tryz.infost : (Tryz.prog.info? 9).map (fun i => (i.zero, i.size, i.bytes)) = some (some (.string ByteArray.empty), 1, 16) := by kernel_rfl

end Go.Proofs.YtcockjjilcapaaaGreatDoor
