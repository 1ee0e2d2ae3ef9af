/-
  YtmmogpbbehgkiaaTraX: traces: the plain laws of the great law on outcomes. No program in sight.
-/
import Derived.Test.YtmmogpbbehgkiaaTraH
namespace Go.Proofs.Ytmmogpbbehgkiaa
open Go Go.RowKit Go.Sort
set_option linter.unusedVariables false

/-- How many steps of a motion are last ones. -/
def fin5 (ks : List Int) : Nat := (ks.filter fun k => decide (5 ≤ k)).length
def has1 (ks : List Int) : Nat := if ks = [] then 0 else 1
def isOp (ks : List Int) : Nat := if isOpen ks then 1 else 0
theorem fine_at {ks : List Int} (h : fine ks = true) {i : Nat} (hi : i < ks.length) : okK (ks.getD i 0) ks.length i = true := by
  unfold fine at h
  exact List.all_eq_true.1 h i (List.mem_range.2 hi)
theorem fine_last {ks : List Int} (h : fine ks = true) {i : Nat} {x : Int} (hx : ks[i]? = some x) (h5 : 5 ≤ x) : i + 1 = ks.length := by
  have hi := (List.getElem?_eq_some_iff.1 hx).1
  have := fine_at h hi
  unfold okK okG at this
  simp only [Bool.and_eq_true] at this
  have h2 := this.2
  rw [List.getD_eq_getElem?_getD, hx] at h2
  simp [h5] at h2
  exact h2
/-- A motion with steps has a last one or is open. -/
theorem one_end {ks : List Int} (h : fine ks = true) : has1 ks = fin5 ks + isOp ks := by
  rcases List.eq_nil_or_concat ks with rfl | ⟨t, x, rfl⟩
  · rfl
  · have ht : t.filter (fun k => decide (5 ≤ k)) = [] := by
      rw [List.filter_eq_nil_iff]
      intro y hy h5
      obtain ⟨i, hi⟩ := List.mem_iff_getElem?.1 hy
      have hl := (List.getElem?_eq_some_iff.1 hi).1
      have := fine_last h (i := i) (x := y) (by rw [List.concat_eq_append, List.getElem?_append_left hl]; exact hi) (of_decide_eq_true h5)
      rw [List.concat_eq_append, List.length_append, List.length_singleton] at this
      omega
    have ho : isOpen (t.concat x) = decide (x < 5) := by unfold isOpen; rw [List.concat_eq_append, List.getLast?_concat]
    unfold has1 fin5 isOp
    rw [ho, List.concat_eq_append, List.filter_append, ht]
    by_cases h5 : 5 ≤ x
    · rw [if_neg (by simp), List.filter_cons_of_pos (by simpa using h5), decide_eq_false (by omega)]
      rfl
    · rw [if_neg (by simp), List.filter_cons_of_neg (by simpa using h5), decide_eq_true (by omega)]
      rfl
/-- Of the first j motions: those that were moved. -/
def movTo (l : List TS) (j : Nat) : Nat := ((List.range j).filter fun (t : Nat) => !(kinds l ((t : Int) + 1)).isEmpty).length
theorem movTo_yes {l : List TS} {j : Nat} (h : (kinds l ((j : Int) + 1)).isEmpty = false) : movTo l (j + 1) = movTo l j + 1 := by
  unfold movTo; rw [List.range_succ, List.filter_append, List.length_append]; simp [h]
theorem movTo_no {l : List TS} {j : Nat} (h : (kinds l ((j : Int) + 1)).isEmpty = true) : movTo l (j + 1) = movTo l j := by
  unfold movTo; rw [List.range_succ, List.filter_append, List.length_append]; simp [h]
theorem movTo_le (l : List TS) (j : Nat) : movTo l j ≤ j := by
  unfold movTo
  exact Nat.le_trans (List.length_filter_le _ _) (by simp)
/-- Last steps of the first j motions. -/
def endTo (l : List TS) (j : Nat) : Nat := (l.filter fun s => decide (5 ≤ s.k) && decide (1 ≤ s.m ∧ s.m ≤ (j : Int))).length
theorem endTo_step (j : Nat) : ∀ l : List TS, endTo l (j + 1) = endTo l j + fin5 (kinds l ((j : Int) + 1))
  | [] => rfl
  | s :: t => by
    have ih := endTo_step j t
    unfold endTo fin5 kinds at ih ⊢
    by_cases h5 : 5 ≤ s.k
    · by_cases hm : s.m = (j : Int) + 1
      · rw [List.filter_cons_of_pos (by simp; omega), List.filter_cons_of_neg (by simp; omega), List.filter_cons_of_pos (by simpa using hm), List.map_cons, List.filter_cons_of_pos (by simpa using h5), List.length_cons, List.length_cons, ih]
        omega
      · by_cases h1 : 1 ≤ s.m ∧ s.m ≤ (j : Int)
        · rw [List.filter_cons_of_pos (by simp; omega), List.filter_cons_of_pos (by simp; omega), List.filter_cons_of_neg (by simpa using hm), List.length_cons, List.length_cons, ih]
          omega
        · rw [List.filter_cons_of_neg (by simp; omega), List.filter_cons_of_neg (by simp; omega), List.filter_cons_of_neg (by simpa using hm), ih]
    · rw [List.filter_cons_of_neg (by simp; omega), List.filter_cons_of_neg (by simp; omega)]
      by_cases hm : s.m = (j : Int) + 1
      · rw [List.filter_cons_of_pos (by simpa using hm), List.map_cons, List.filter_cons_of_neg (by simpa using h5), ih]
      · rw [List.filter_cons_of_neg (by simpa using hm), ih]
theorem endTo_zero (l : List TS) : endTo l 0 = 0 := by
  unfold endTo
  rw [List.length_eq_zero_iff, List.filter_eq_nil_iff]
  intro s _ h
  simp at h
  omega
theorem mov_sum {l : List TS} (h : ordL l = true) : ∀ j, j ≤ 20 → movTo l j = endTo l j + (openTo l j).length
  | 0, _ => by rw [endTo_zero]; rfl
  | j + 1, hj => by
    have ih := mov_sum h j (by omega)
    have hf : fine (kinds l ((j : Int) + 1)) = true := List.all_eq_true.1 h j (List.mem_range.2 (by omega))
    have he := one_end hf
    have ho : (openTo l (j + 1)).length = (openTo l j).length + isOp (kinds l ((j : Int) + 1)) := by
      unfold isOp
      cases hh : isOpen (kinds l ((j : Int) + 1))
      · rw [openTo_no hh]; rfl
      · rw [openTo_yes hh]; simp
    have hm : movTo l (j + 1) = movTo l j + has1 (kinds l ((j : Int) + 1)) := by
      unfold has1
      cases hh : kinds l ((j : Int) + 1) with
      | nil => rw [movTo_no (by rw [hh]; rfl)]; rfl
      | cons a b => rw [movTo_yes (by rw [hh]; rfl)]; rfl
    rw [endTo_step, hm, ho]
    omega
theorem cnt5 : ∀ {l : List TS}, l.all tsOK = true → (endTo l 20 : Int) = cntK l 5 + cntK l 6 + cntK l 7
  | [], _ => rfl
  | s :: t, h => by
    rw [List.all_cons, Bool.and_eq_true] at h
    have ih := cnt5 h.2
    have hs := h.1
    unfold tsOK at hs
    rw [Bool.and_eq_true, inB_iff, inB_iff] at hs
    unfold endTo cntK at ih ⊢
    by_cases h5 : 5 ≤ s.k
    · rw [List.filter_cons_of_pos (by simp; omega), List.length_cons]
      rcases (by omega : s.k = 5 ∨ s.k = 6 ∨ s.k = 7) with e | e | e <;> simp [e] at ih ⊢ <;> omega
    · rw [List.filter_cons_of_neg (by simp; omega)]
      rw [List.filter_cons_of_neg (by simp; omega), List.filter_cons_of_neg (by simp; omega), List.filter_cons_of_neg (by simp; omega)]
      exact ih
theorem out_sum {l : List TS} (h : asked l = true) : (outR l).sum = (movTo l 20 : Int) ∧ (outR l)[3]? = some (((openR l).length : Nat) : Int) := by
  have h0 := h
  unfold asked at h
  rw [Bool.and_eq_true] at h
  have h1 := mov_sum h.2 20 (Nat.le_refl _)
  have h2 := cnt5 (goodL_all h.1)
  unfold outR openR
  rw [if_pos h0, if_pos h0]
  refine ⟨?_, rfl⟩
  unfold cnts openL
  simp only [List.sum_cons, List.sum_nil]
  omega
theorem path_emp (l : List TS) (m : Int) : (path l m).size = 0 ↔ (kinds l m).isEmpty = true := by
  have hs : (path l m).size = (kinds l m).length := by
    show (((kinds l m).map letter).toArray).size = _
    simp
  rw [hs, List.isEmpty_iff, List.length_eq_zero_iff]
theorem open_rise (l : List TS) : (openL l).Pairwise (· < ·) ∧ ∀ x ∈ openL l, 1 ≤ x ∧ x ≤ 20 := by
  unfold openL openTo
  constructor
  · refine List.Pairwise.filter _ ?_
    rw [List.pairwise_map]
    exact List.pairwise_lt_range.imp (fun h => by omega)
  · intro x hx
    obtain ⟨t, ht, rfl⟩ := List.mem_map.1 (List.mem_filter.1 hx).1
    have := List.mem_range.1 ht
    omega

end Go.Proofs.Ytmmogpbbehgkiaa
