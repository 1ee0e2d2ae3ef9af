/-
  YtmmogpbbehgkiaaGreatDoorSt: lists of texts, where the law's own helpers do not bring them.
-/
import Derived.Test.YtmmogpbbehgkiaaGreatDoorHelp
import Derived.Lib.Join
namespace Go.Proofs.YtmmogpbbehgkiaaGreatDoor
open Go Go.RowKit Go.Sort
set_option linter.unusedVariables false

def stV (x : ByteArray) : List Value := [.string x]
theorem stV_len (x : ByteArray) : (stV x).length = 1 := rfl
theorem Rd.st {w : World} {A : Option Addr} {n c : Nat} {l : List ByteArray} (h : Rd stV 1 w A n c l) {i : Nat} (hi : i < n) :
    ∃ b off x, A = some ⟨b, off, none⟩ ∧ l[i]? = some x ∧ w.cell? ⟨b, off + i, none⟩ = some (.string x) := by
  obtain ⟨b, off, e, hc⟩ := h.at_ (by omega)
  have hl : i < l.length := by have := h.len; omega
  exact ⟨b, off, l[i], e, List.getElem?_eq_getElem hl, by simpa using hc i _ (List.getElem?_eq_getElem hl) 0 _ rfl⟩
theorem one_st : ∀ x : ByteArray, ∀ u ∈ stV x, u.oneCell' = true := by intro x u h; simp [stV] at h; subst h; rfl
theorem Tryz.infoSt : (Tryz.prog.info? 9).map (fun i => (i.zero, i.size, i.bytes)) = some (some (.string ByteArray.empty), 1, 16) := by kernel_rfl

/-! ### words joined by spaces -/
def sp : ByteArray := ⟨#[32]⟩
def joinS (l : List ByteArray) (sep : ByteArray) : ByteArray := ⟨(Lib.join (l.map (·.data.toList)) sep.data.toList).toArray⟩
theorem joinS_nil (sep : ByteArray) : joinS [] sep = ByteArray.empty := rfl
theorem joinS_one (x sep : ByteArray) : joinS [x] sep = x := by
  unfold joinS
  rw [List.map_cons, List.map_nil, Lib.join_one]
theorem joinS_snoc (l : List ByteArray) (x sep : ByteArray) (h : l ≠ []) : joinS (l ++ [x]) sep = joinS l sep ++ sep ++ x := by
  obtain ⟨y, r, rfl⟩ := List.exists_cons_of_ne_nil h
  unfold joinS
  apply ByteArray.ext
  rw [List.cons_append, List.map_cons, List.map_cons, List.map_append, Lib.join_cons, Lib.join_cons]
  simp [Lib.joinTail]

end Go.Proofs.YtmmogpbbehgkiaaGreatDoor
