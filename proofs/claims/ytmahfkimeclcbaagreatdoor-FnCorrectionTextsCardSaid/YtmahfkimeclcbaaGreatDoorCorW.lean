/-
  YtmahfkimeclcbaaGreatDoorCorW: corrections: the plain laws of the great law on their texts. No program in sight.
-/
import Derived.Test.YtmahfkimeclcbaaGreatDoorCorG
import Derived.Test.YtmahfkimeclcbaaGreatDoorCorI
namespace Go.Proofs.YtmahfkimeclcbaaGreatDoor
open Go Go.RowKit Go.Sort
set_option linter.unusedVariables false

theorem sh_found {a b : ByteArray} {y : CO} (h : shO a b = some y) : lineB a = true ∧ y.line = 0 ∧ coOK y = true ∧ impG a y = true ∧ fixB a y = b := by
  unfold shO at h
  split at h
  · rename_i hc
    simp only [Bool.and_eq_true] at hc
    unfold shAll at h
    obtain ⟨n, hn, h2⟩ := Option.bind_eq_some_iff.1 h
    unfold shRow at h2
    obtain ⟨i, hi, rfl⟩ := Option.map_eq_some_iff.1 h2
    have hk := List.find?_some hi
    unfold shOK at hk
    simp only [Bool.and_eq_true] at hk
    obtain ⟨⟨_, h3, h4⟩, h5⟩ := hk
    refine ⟨hc.1.1, rfl, h3, h4, ?_⟩
    unfold impG at h4
    rw [Bool.and_eq_true] at h4
    rw [impS_yes h4.1] at h5
    exact bytes_inj h5
  · cases h
theorem short_law {a b : ByteArray} (h : scG a b = true) : shG [a] (scC a b) = true ∧ shL [a] (scC a b) = [b] := by
  unfold scG at h
  obtain ⟨y, hy⟩ := Option.isSome_iff_exists.1 h
  rw [scC_yes hy]
  obtain ⟨h1, h2, h3, h4, h5⟩ := sh_found hy
  have e : lineAt [a] y = a := by unfold lineAt; rw [h2]; rfl
  have hc : corrG [a] y = true := by
    unfold corrG
    rw [e, h3, h4, h2]
    rfl
  have hs : shG [a] y = true := by
    unfold shG sheetB
    rw [hc]
    simp [h1]
  refine ⟨hs, ?_⟩
  rw [shL_yes hs, corrL_yes hc, e, h2, h5]
  rfl
theorem com_symm (l : List ByteArray) (x y : CO) : comG l y x = comG l x y ∧ comB l y x = comB l x y := by
  have e : comG l y x = comG l x y := by unfold comG; rw [Bool.and_comm]
  refine ⟨e, ?_⟩
  unfold comB
  rw [e]
  unfold sameB
  rw [show decide (allL l [y, x] = allL l [x, y]) = decide (allL l [x, y] = allL l [y, x]) from by
    by_cases h : allL l [x, y] = allL l [y, x]
    · rw [decide_eq_true h, decide_eq_true h.symm]
    · rw [decide_eq_false h, decide_eq_false (fun g => h g.symm)]]
theorem all_two {l : List ByteArray} {x y : CO} (h : allG l [x, y] = true) : corrG l x = true ∧ corrG (corrL l x) y = true ∧ allL l [x, y] = corrL (corrL l x) y := by
  have h0 := h
  unfold allG at h
  rw [Bool.and_eq_true] at h
  have h2 := h.2
  cases h3 : corrG l x with
  | false => simp [allC, h3] at h2
  | true =>
    cases h4 : corrG (corrL l x) y with
    | false => simp [allC, h3, h4] at h2
    | true =>
      have ha : allC l [x, y] = some (corrL (corrL l x) y) := by simp [allC, h3, h4]
      exact ⟨rfl, rfl, allL_some ha h.1⟩
theorem line_of {l : List ByteArray} {x : CO} (h : corrG l x = true) : ((x.line.toNat : Nat) : Int) = x.line := by
  unfold corrG at h
  simp only [Bool.and_eq_true] at h
  have := inB_iff.1 h.1.2
  omega
theorem com_lines {l : List ByteArray} {x y : CO} (h : comG l x y = true) (hne : ¬ x.line = y.line) : comB l x y = true := by
  rw [comB_yes h]
  unfold comG at h
  rw [Bool.and_eq_true] at h
  obtain ⟨a1, a2, a3⟩ := all_two h.1
  obtain ⟨b1, b2, b3⟩ := all_two h.2
  have hk : ¬ x.line.toNat = y.line.toNat := fun e => hne (by rw [← line_of a1, ← line_of b1, e])
  unfold sameB
  rw [a3, b3, corrL_yes a2, corrL_yes b2, corrL_yes a1, corrL_yes b1]
  have e1 : ∀ t, lineAt (l.set x.line.toNat t) y = lineAt l y := fun t => by
    unfold lineAt
    rw [List.getD_eq_getElem?_getD, List.getD_eq_getElem?_getD, List.getElem?_set_ne hk]
  have e2 : ∀ t, lineAt (l.set y.line.toNat t) x = lineAt l x := fun t => by
    unfold lineAt
    rw [List.getD_eq_getElem?_getD, List.getD_eq_getElem?_getD, List.getElem?_set_ne (Ne.symm hk)]
  rw [e1, e2, List.set_comm _ _ hk]
  simp

end Go.Proofs.YtmahfkimeclcbaaGreatDoor
