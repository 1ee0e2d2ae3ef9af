/-
  YtndoapgalbljpaaParK: the marks of the parts, step by step, as the two sides write them. No program in sight.
-/
import Derived.Test.YtndoapgalbljpaaPartM
namespace Go.Proofs.Ytndoapgalbljpaa
open Go Go.RowKit Go.Sort
set_option linter.unusedVariables false

theorem edN_len (l : List CL) (i : Nat) : (edN l i).length = (nd l i).length := by simp [edN]
theorem edN_get {l : List CL} {i j : Nat} {y : Int} (h : (nd l i)[j]? = some y) : (edN l i)[j]? = some (i, y.toNat) := by simp [edN, h]
theorem fold_join_len (es : List (Nat × Nat)) (F : List Int) : (es.foldl joinM F).length = F.length := by
  induction es generalizing F with
  | nil => rfl
  | cons e es ih => rw [List.foldl_cons, ih, joinM_len]
theorem fold_least_len (es : List (Nat × Nat)) (F : List Int) : (es.foldl leastM F).length = F.length := by
  induction es generalizing F with
  | nil => rfl
  | cons e es ih => rw [List.foldl_cons, ih, leastM_len]
/-! ### the program's marks -/
def fTo (l : List CL) (i j : Nat) : List Int := (edTo l i ++ (edN l i).take j).foldl joinM (idM l.length)
theorem fTo_start (l : List CL) : fTo l 0 0 = idM l.length := by simp [fTo, edTo]
theorem fTo_step {l : List CL} {i j : Nat} {y : Int} (h : (nd l i)[j]? = some y) : fTo l i (j + 1) = joinM (fTo l i j) (i, y.toNat) := by
  unfold fTo
  rw [List.take_add_one, edN_get h, ← List.append_assoc, List.foldl_append]
  rfl
theorem fTo_next {l : List CL} {i j : Nat} (h : (nd l i).length ≤ j) : fTo l i j = fTo l (i + 1) 0 := by
  unfold fTo
  rw [List.take_of_length_le (by rw [edN_len]; exact h), ← edTo_succ]
  simp
theorem fTo_fin (l : List CL) : fTo l l.length 0 = prtM l := by simp [fTo, prtM]
theorem fTo_len (l : List CL) (i j : Nat) : (fTo l i j).length = l.length := by rw [fTo, fold_join_len, idM_len]
/-- Of the first k marks those of the value hi turned to lo. -/
def trT (F : List Int) (hi lo : Int) (k : Nat) : List Int := (F.take k).map (fun x => if x = hi then lo else x) ++ F.drop k
theorem trT_start (F : List Int) (hi lo : Int) : trT F hi lo 0 = F := by simp [trT]
theorem trT_end {F : List Int} {hi lo : Int} {k : Nat} (h : F.length = k) : trT F hi lo k = turnM F hi lo := by subst h; simp [trT, turnM]
theorem trT_len (F : List Int) (hi lo : Int) (k : Nat) : (trT F hi lo k).length = F.length := by simp [trT]; omega
theorem trT_get {F : List Int} {hi lo : Int} {k : Nat} {x : Int} (h : F[k]? = some x) : (trT F hi lo k)[k]? = some x := by
  have hk : k < F.length := (List.getElem?_eq_some_iff.1 h).1
  unfold trT
  rw [List.getElem?_append_right (by simp; omega)]
  simp [show k - min k F.length = 0 by omega, h]
theorem trT_snoc {F : List Int} {hi lo : Int} {k : Nat} {x : Int} (h : F[k]? = some x) : trT F hi lo (k + 1) = (F.take k).map (fun x => if x = hi then lo else x) ++ (if x = hi then lo else x) :: F.drop (k + 1) := by
  unfold trT
  rw [List.take_add_one, h]
  simp
theorem trT_old {F : List Int} {hi lo : Int} {k : Nat} {x : Int} (h : F[k]? = some x) : trT F hi lo k = (F.take k).map (fun x => if x = hi then lo else x) ++ x :: F.drop (k + 1) := by
  have hk : k < F.length := (List.getElem?_eq_some_iff.1 h).1
  unfold trT
  rw [List.drop_eq_getElem_cons hk]
  rw [List.getElem?_eq_getElem hk] at h
  injection h with h
  rw [h]
theorem trT_yes {F : List Int} {hi lo : Int} {k : Nat} (h : F[k]? = some hi) : (trT F hi lo k).set k lo = trT F hi lo (k + 1) := by
  have hk : k < F.length := (List.getElem?_eq_some_iff.1 h).1
  rw [trT_snoc h, trT_old h, if_pos rfl, List.set_append_right _ _ (by simp; omega)]
  simp [show k - min k F.length = 0 by omega]
theorem trT_no {F : List Int} {hi lo : Int} {k : Nat} {x : Int} (h : F[k]? = some x) (hx : x ≠ hi) : trT F hi lo (k + 1) = trT F hi lo k := by
  rw [trT_snoc h, trT_old h, if_neg hx]
/-! ### the reference's marks -/
def gTo (l : List CL) (t i j : Nat) : List Int := (edTo l i ++ (edN l i).take j).foldl leastM (sweepN (edTo l l.length) l.length t)
theorem sweepN_len (l : List CL) (t : Nat) : (sweepN (edTo l l.length) l.length t).length = l.length := by
  induction t with
  | zero => exact idM_len _
  | succ t ih => rw [sweepN, fold_least_len, ih]
theorem gTo_len (l : List CL) (t i j : Nat) : (gTo l t i j).length = l.length := by rw [gTo, fold_least_len, sweepN_len]
theorem gTo_start (l : List CL) : gTo l 0 0 0 = idM l.length := by simp [gTo, edTo, sweepN]
theorem gTo_step {l : List CL} {t i j : Nat} {y : Int} (h : (nd l i)[j]? = some y) : gTo l t i (j + 1) = leastM (gTo l t i j) (i, y.toNat) := by
  unfold gTo
  rw [List.take_add_one, edN_get h, ← List.append_assoc, List.foldl_append]
  rfl
theorem gTo_next {l : List CL} {t i j : Nat} (h : (nd l i).length ≤ j) : gTo l t i j = gTo l t (i + 1) 0 := by
  unfold gTo
  rw [List.take_of_length_le (by rw [edN_len]; exact h), ← edTo_succ]
  simp
theorem gTo_up (l : List CL) (t : Nat) : gTo l t l.length 0 = gTo l (t + 1) 0 0 := by simp [gTo, edTo, sweepN]
theorem gTo_fin {l : List CL} (hv : clsB l = true) : gTo l l.length 0 0 = prtM l := by
  have : gTo l l.length 0 0 = sweepN (edTo l l.length) l.length l.length := by simp [gTo, edTo]
  rw [this, prt_sweep hv]

end Go.Proofs.Ytndoapgalbljpaa
