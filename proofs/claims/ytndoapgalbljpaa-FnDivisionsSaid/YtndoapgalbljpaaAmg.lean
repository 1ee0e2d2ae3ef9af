/-
  YtndoapgalbljpaaAmg: a draw among some numbers.
-/
import Derived.Test.YtndoapgalbljpaaCur
namespace Go.Proofs.Ytndoapgalbljpaa
open Go Go.RowKit Go.Sort
set_option linter.unusedVariables false

/-- A list in memory that was made since the cursor was is kept while the cursor moves. -/
theorem Rd.cur {α : Type} {enc : α → List Value} {sz : Nat} {w w' : World} {A : Option Addr} {n c : Nat} {l : List α} {g : Nat} (h : Rd enc sz w A n c l) (hg : w.grownBy w' (some g)) (ha : ∀ a, A = some a → a.block ≠ g) : Rd enc sz w' A n c l :=
  ⟨h.len, h.cap, h.max, h.nil0, fun hn => by
    obtain ⟨b, off, e, hc⟩ := h.at_ hn
    refine ⟨b, off, e, fun i x hx j u hu => ?_⟩
    have h3 := hc i x hx j u hu
    have hne : b ≠ g := ha _ e
    rw [World.cell?_of_block (hg.block b (lt_of_cell h3) (fun e => by injection e with e; exact hne e))]
    exact h3⟩
/-- A block that is known whole, as a list. -/
theorem rd_lit {α : Type} {enc : α → List Value} {w : World} {e : TypeId} {fr : Nat × Nat} {k n : Nat} {cs : Array Value} {l : List α} (h : w.heap[k]? = some (.cells cs e fr)) (he : ∀ x, (enc x).length = 1) (hn : l.length = n) (hm : n ≤ maxLen) (hcs : cs.toList = l.flatMap enc) :
    Rd enc 1 w (some ⟨k, 0, none⟩) n n l := by
  refine ⟨hn, Nat.le_refl _, hm, (fun h => by cases h), fun _ => ⟨k, 0, rfl, fun i x hx j u hu => ?_⟩⟩
  have hj : j < 1 := by rw [← he x]; exact (List.getElem?_eq_some_iff.1 hu).1
  rw [cell_of_row w k _ cs e fr h, ← Array.getElem?_toList, hcs, Nat.zero_add, flat_get he l i j x hx hj]
  exact hu

/-- A list made before the cursor was is kept while the cursor moves. -/
theorem Own.curOld {α : Type} {enc : α → List Value} {sz : Nat} {w w' : World} {base : Nat} {e : TypeId} {A : Option Addr} {n c : Nat} {l : List α} {g : Nat} (h : Own enc sz w base e A n c l) (hg : w.grownBy w' (some g)) (hb : ∀ k, blockOf A = some k → k ≠ g) : Own enc sz w' base e A n c l :=
  h.grown hg (by
    cases hA : blockOf A with
    | none => exact .inl rfl
    | some k => exact .inr (fun e => by injection e with e; exact hb k hA e))
theorem below_of_cur {w w1 w' : World} {g : Nat} (hb : Below w.heap.size w w1) (hg : w1.grownBy w' (some g)) : w.grownBy w' (some g) := grown_trans (grown_of_below hb _) hg

end Go.Proofs.Ytndoapgalbljpaa
