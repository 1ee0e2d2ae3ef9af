/-
  YtmmogpbbehgkiaaTraW: traces: the plain laws of the great law on traces. No program in sight.
-/
import Derived.Test.YtmmogpbbehgkiaaTraF
namespace Go.Proofs.Ytmmogpbbehgkiaa
open Go Go.RowKit Go.Sort
set_option linter.unusedVariables false

theorem okK_less {x : Int} {n m j : Nat} (h : okK x (n + m) j = true) (hj : j < n) : okK x n j = true := by
  unfold okK okG at h ⊢
  simp only [Bool.and_eq_true, Bool.or_eq_true, decide_eq_true_eq] at h ⊢
  refine ⟨h.1, ?_⟩
  rcases h.2 with h2 | h2
  · exact .inl h2
  · exact .inr (by omega)
theorem fine_pre {ks t : List Int} (h : fine (ks ++ t) = true) : fine ks = true := by
  unfold fine
  refine all_range_upto (fun j hj => ?_)
  have h2 := List.all_eq_true.1 (show (List.range (ks ++ t).length).all _ = true from h) j (List.mem_range.2 (by rw [List.length_append]; omega))
  rw [List.length_append, List.getD_eq_getElem?_getD, List.getElem?_append_left hj, ← List.getD_eq_getElem?_getD] at h2
  exact okK_less h2 hj
theorem kinds_app (a b : List TS) (m : Int) : kinds (a ++ b) m = kinds a m ++ kinds b m := by
  unfold kinds; rw [List.filter_append, List.map_append]
theorem ord_pre {a b : List TS} (h : ordL (a ++ b) = true) : ordL a = true := by
  unfold ordL at h ⊢
  refine List.all_eq_true.2 (fun j hj => ?_)
  have := List.all_eq_true.1 h j hj
  rw [kinds_app] at this
  exact fine_pre this
theorem ord_take {l : List TS} (h : ordL l = true) (i : Nat) : ordL (l.take i) = true := by
  rw [← List.take_append_drop i l] at h
  exact ord_pre h
theorem good_take {l : List TS} (h : goodL l = true) (i : Nat) : goodL (l.take i) = true := by
  unfold goodL at h ⊢
  rw [Bool.and_eq_true] at h ⊢
  refine ⟨List.all_eq_true.2 fun s hs => List.all_eq_true.1 h.1 s (List.mem_of_mem_take hs), ?_⟩
  have := of_decide_eq_true h.2
  exact decide_eq_true (by rw [List.length_take]; omega)
theorem ord_nil : ordL [] = true := by decide
theorem fd_yes {l : List TS} (h : fdB l = true) : goodL l = true ∧ ordL l = false ∧ ∃ i : Nat, fdN l = (i : Int) + 1 ∧ i < l.length ∧ ordL (l.take i) = true := by
  unfold fdB at h
  rw [Bool.and_eq_true] at h
  obtain ⟨hg, hs⟩ := h
  obtain ⟨i, hi⟩ := Option.isSome_iff_exists.1 hs
  have hp := List.find?_some hi
  have hm := List.mem_range.1 (List.mem_of_find?_eq_some hi)
  have hb : ordL (l.take (i + 1)) = false := by simpa using hp
  refine ⟨hg, ?_, i, by unfold fdN; rw [if_pos hg, hi], hm, ?_⟩
  · cases ho : ordL l
    · rfl
    · rw [ord_take ho] at hb; cases hb
  · cases i with
    | zero => rw [List.take_zero]; exact ord_nil
    | succ j =>
      cases ho : ordL (l.take (j + 1))
      · exfalso
        unfold badAt at hi
        rw [List.find?_range_eq_some] at hi
        have := hi.2.2 j (by omega)
        rw [ho] at this
        simp at this
      · rfl
theorem fd_no {l : List TS} (hg : goodL l = true) (h : fdB l = false) : ordL l = true := by
  unfold fdB at h
  rw [hg, Bool.true_and] at h
  have hn : badAt l = none := by
    cases e : badAt l with
    | none => rfl
    | some i => rw [e] at h; cases h
  cases hl : l.length with
  | zero => rw [List.eq_nil_of_length_eq_zero hl]; exact ord_nil
  | succ n =>
    unfold badAt at hn
    have := List.find?_eq_none.1 hn n (List.mem_range.2 (by omega))
    rw [show l.take (n + 1) = l from List.take_of_length_le (by omega)] at this
    simpa using this
theorem add_yes {l : List TS} {s : TS} (h : addB l s = true) : addL l s = l ++ [s] ∧ goodL l = true ∧ goodL (l ++ [s]) = true ∧ ordL (l ++ [s]) = true ∧ tsOK s = true := by
  have h0 := h
  unfold addB asked at h
  simp only [Bool.and_eq_true] at h
  obtain ⟨⟨h1, h2⟩, h3, h4⟩ := h
  refine ⟨by unfold addL; rw [show (asked l && asked (l ++ [s])) = true from h0, if_pos rfl], h1, h3, h4, ?_⟩
  exact List.all_eq_true.1 (goodL_all h3) s (by simp)
theorem path_add (l : List TS) (s : TS) : path (l ++ [s]) s.m = path l s.m ++ ⟨#[letter s.k]⟩ := by
  unfold path
  rw [kinds_app]
  have : kinds [s] s.m = [s.k] := by unfold kinds; simp
  rw [this, List.map_append]
  apply ByteArray.ext
  simp

end Go.Proofs.Ytmmogpbbehgkiaa
