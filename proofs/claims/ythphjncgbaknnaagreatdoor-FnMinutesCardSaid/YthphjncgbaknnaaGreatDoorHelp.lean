/-
  YthphjncgbaknnaaGreatDoorHelp: the law file's own helpers (sz, to, eq, mark, held) at the element types Tally Entry Int: each by a contract. Printed by a program (wip/gen/help.py).
-/
import Derived.Test.YthphjncgbaknnaaGreatDoorCommon
import Derived.Test.YthphjncgbaknnaaGreatDoorRows
import Derived.WalkSpells
import Derived.WalkLawsBesides
import Derived.Deep.DeepMust
namespace Go.Proofs.YthphjncgbaknnaaGreatDoor
open Go Go.RowKit Go.Sort
set_option linter.unusedVariables false
set_option maxRecDepth 100000

theorem bcell {W w1 : World} (hb : Below W.heap.size W w1) : (∀ b o, b < W.heap.size → w1.cell? ⟨b, o, none⟩ = W.cell? ⟨b, o, none⟩) ∧ (∀ b o, b < W.heap.size → w1.frozen? ⟨b, o, none⟩ = W.frozen? ⟨b, o, none⟩) :=
  ⟨fun b o h => hb.cell (p := ⟨b, o, none⟩) h, fun b o h => hb.frozen (p := ⟨b, o, none⟩) h⟩

/-- The mark of a bool. -/
def markB (k : Int) : Bool := (k % 3 == 0)

structure TA where
  yes : Int
  no : Int
  ab : Int
deriving DecidableEq
def taV (x : TA) : List Value := [.int .i64 x.yes, .int .i64 x.no, .int .i64 x.ab]
theorem taV_len (x : TA) : (taV x).length = 3 := rfl
theorem Rd.ta {w : World} {A : Option Addr} {n c : Nat} {l : List TA} (h : Rd taV 3 w A n c l) {i : Nat} (hi : i < n) :
    ∃ b off x, A = some ⟨b, off, none⟩ ∧ l[i]? = some x ∧ w.cell? ⟨b, off + i * 3, none⟩ = some (.int .i64 x.yes) ∧ w.cell? ⟨b, off + i * 3 + 1, none⟩ = some (.int .i64 x.no) ∧ w.cell? ⟨b, off + i * 3 + 2, none⟩ = some (.int .i64 x.ab) := by
  obtain ⟨b, off, e, hc⟩ := h.at_ (by omega)
  have hl : i < l.length := by have := h.len; omega
  exact ⟨b, off, l[i], e, List.getElem?_eq_getElem hl, hc i _ (List.getElem?_eq_getElem hl) 0 _ rfl, hc i _ (List.getElem?_eq_getElem hl) 1 _ rfl, hc i _ (List.getElem?_eq_getElem hl) 2 _ rfl⟩

structure EN where
  kind : Int
  who : ByteArray
  mo : ByteArray
  yes : Int
  no : Int
  ab : Int
  pa : Bool
deriving DecidableEq
def enV (x : EN) : List Value := [.int .i64 x.kind, .string x.who, .string x.mo, .int .i64 x.yes, .int .i64 x.no, .int .i64 x.ab, .bool x.pa]
theorem enV_len (x : EN) : (enV x).length = 7 := rfl
theorem Rd.en {w : World} {A : Option Addr} {n c : Nat} {l : List EN} (h : Rd enV 7 w A n c l) {i : Nat} (hi : i < n) :
    ∃ b off x, A = some ⟨b, off, none⟩ ∧ l[i]? = some x ∧ w.cell? ⟨b, off + i * 7, none⟩ = some (.int .i64 x.kind) ∧ w.cell? ⟨b, off + i * 7 + 1, none⟩ = some (.string x.who) ∧ w.cell? ⟨b, off + i * 7 + 2, none⟩ = some (.string x.mo) ∧ w.cell? ⟨b, off + i * 7 + 3, none⟩ = some (.int .i64 x.yes) ∧ w.cell? ⟨b, off + i * 7 + 4, none⟩ = some (.int .i64 x.no) ∧ w.cell? ⟨b, off + i * 7 + 5, none⟩ = some (.int .i64 x.ab) ∧ w.cell? ⟨b, off + i * 7 + 6, none⟩ = some (.bool x.pa) := by
  obtain ⟨b, off, e, hc⟩ := h.at_ (by omega)
  have hl : i < l.length := by have := h.len; omega
  exact ⟨b, off, l[i], e, List.getElem?_eq_getElem hl, hc i _ (List.getElem?_eq_getElem hl) 0 _ rfl, hc i _ (List.getElem?_eq_getElem hl) 1 _ rfl, hc i _ (List.getElem?_eq_getElem hl) 2 _ rfl, hc i _ (List.getElem?_eq_getElem hl) 3 _ rfl, hc i _ (List.getElem?_eq_getElem hl) 4 _ rfl, hc i _ (List.getElem?_eq_getElem hl) 5 _ rfl, hc i _ (List.getElem?_eq_getElem hl) 6 _ rfl⟩

def inV (x : Int) : List Value := [.int .i64 x]
theorem inV_len (x : Int) : (inV x).length = 1 := rfl
theorem Rd.in {w : World} {A : Option Addr} {n c : Nat} {l : List Int} (h : Rd inV 1 w A n c l) {i : Nat} (hi : i < n) :
    ∃ b off x, A = some ⟨b, off, none⟩ ∧ l[i]? = some x ∧ w.cell? ⟨b, off + i, none⟩ = some (.int .i64 x) := by
  obtain ⟨b, off, e, hc⟩ := h.at_ (by omega)
  have hl : i < l.length := by have := h.len; omega
  exact ⟨b, off, l[i], e, List.getElem?_eq_getElem hl, by simpa using hc i _ (List.getElem?_eq_getElem hl) 0 _ rfl⟩

end Go.Proofs.YthphjncgbaknnaaGreatDoor
