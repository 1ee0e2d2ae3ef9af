/-
  YtndoapgalbljpaaColM: the parts collected from marks: the plain mathematics. No program in sight.
-/
import Derived.Test.YtndoapgalbljpaaPartM
import Derived.Test.YtndoapgalbljpaaDepM
namespace Go.Proofs.Ytndoapgalbljpaa
open Go Go.RowKit Go.Sort
set_option linter.unusedVariables false

/-- Of the first k places those that bear the mark i. -/
def pAt (F : List Int) (i k : Nat) : List Int := chP k (fun m => decide (F.getD m 0 = (i : Int)))
theorem pAt_zero (F : List Int) (i : Nat) : pAt F i 0 = [] := rfl
theorem pAt_yes {F : List Int} {i k : Nat} (h : F.getD k 0 = (i : Int)) : pAt F i (k + 1) = pAt F i k ++ [(k : Int)] := by
  unfold pAt; rw [chP_succ, h]; simp
theorem pAt_no {F : List Int} {i k : Nat} (h : ¬ F.getD k 0 = (i : Int)) : pAt F i (k + 1) = pAt F i k := by
  unfold pAt; rw [chP_succ, decide_eq_false h]; simp
theorem pAt_len (F : List Int) (i k : Nat) : (pAt F i k).length ≤ k := chP_len _ _
/-- The parts of the first i marks, the empty ones left out. -/
def pTo (F : List Int) (n : Nat) : Nat → List (List Int)
  | 0 => []
  | i + 1 => if (pAt F i n).length = 0 then pTo F n i else pTo F n i ++ [pAt F i n]
theorem pTo_len (F : List Int) (n : Nat) : ∀ i, (pTo F n i).length ≤ i
  | 0 => Nat.le_refl _
  | i + 1 => by
    have := pTo_len F n i
    unfold pTo
    split
    · omega
    · simp; omega
theorem pTo_mem {F : List Int} {n : Nat} : ∀ {i : Nat} {p : List Int}, p ∈ pTo F n i → p.length ≤ n
  | 0, p, h => by simp [pTo] at h
  | i + 1, p, h => by
    unfold pTo at h
    split at h
    · exact pTo_mem h
    · rcases List.mem_append.1 h with h | h
      · exact pTo_mem h
      · simp at h; rw [h]; exact pAt_len _ _ _
theorem sum_le {l : List (List Int)} {b : Nat} (h : ∀ p ∈ l, p.length ≤ b) : totI l ≤ l.length * b := by
  induction l with
  | nil => simp [totI]
  | cons p t ih =>
    have h1 := ih (fun q hq => h q (by simp [hq]))
    have h2 := h p (by simp)
    unfold totI at *
    rw [List.map_cons, List.sum_cons, List.length_cons, Nat.add_mul, Nat.one_mul]
    simp only [sizI]
    omega
theorem pTo_tot (F : List Int) (n : Nat) : totI (pTo F n n) ≤ n * n :=
  Nat.le_trans (sum_le (fun p hp => pTo_mem hp)) (Nat.mul_le_mul_right _ (pTo_len F n n))
/-- What SeparateParts gives. -/
def sepL (l : List CL) : List (List Int) := if clsB l then pTo (prtM l) l.length l.length else []
theorem sepL_no {l : List CL} (h : clsB l = false) : sepL l = [] := by simp [sepL, h]
theorem sepL_yes {l : List CL} (h : clsB l = true) : sepL l = pTo (prtM l) l.length l.length := by simp [sepL, h]
theorem sepL_len (l : List CL) : (sepL l).length ≤ l.length := by
  unfold sepL; split
  · exact pTo_len _ _ _
  · simp
theorem sepL_tot (l : List CL) : totI (sepL l) ≤ 64 := by
  unfold sepL; split
  · rename_i h
    have h8 := cls_len h
    have := pTo_tot (prtM l) l.length
    have := Nat.mul_le_mul h8 h8
    omega
  · simp [totI]

end Go.Proofs.Ytndoapgalbljpaa
