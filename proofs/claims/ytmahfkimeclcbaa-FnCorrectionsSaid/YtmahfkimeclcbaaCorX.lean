/-
  YtmahfkimeclcbaaCorX: corrections: the plain laws of the great law on corrections. No program in sight.
-/
import Derived.Test.YtmahfkimeclcbaaCorF
import Derived.Test.YtmahfkimeclcbaaCorH
import Derived.Lib.Split
namespace Go.Proofs.Ytmahfkimeclcbaa
open Go Go.RowKit Go.Sort
set_option linter.unusedVariables false

theorem ba_ext {s t : ByteArray} (h : s.data.toList = t.data.toList) : s = t := by
  cases s; cases t; congr; exact Array.toList_inj.1 h
theorem tl_eq (s t : ByteArray) : (s.toList == t.toList) = decide (s = t) := by
  by_cases h : s = t
  · subst h; simp
  · rw [decide_eq_false h]
    cases e : (s.toList == t.toList)
    · rfl
    · exfalso
      apply h
      have := eq_of_beq e
      rw [Lib.toList_data, Lib.toList_data] at this
      exact ba_ext this
theorem coOK_parts {x : CO} (h : coOK x = true) : 1 ≤ x.old.size ∧ ¬ x.old = x.new := by
  unfold coOK at h
  rw [tl_eq] at h
  simp only [Bool.and_eq_true] at h
  obtain ⟨⟨⟨_, h1⟩, _⟩, h2⟩ := h
  have := (inB_iff.1 h1).1
  exact ⟨by omega, by simpa using h2⟩
theorem fix_data (s : ByteArray) (x : CO) : (fixB s x).data.toList = s.data.toList.take (at1 s x.old) ++ (x.new.data.toList ++ s.data.toList.drop (at1 s x.old + x.old.size)) := by
  unfold fixB
  rw [ByteArray.data_append, ByteArray.data_append, Array.toList_append, Array.toList_append, Lib.extract_from_zero, Lib.extract_to_end, List.append_assoc]
theorem bef_data (s : ByteArray) (x : CO) (i : Nat) : (befB s x i).data.toList = s.data.toList.take i ++ (x.old.data.toList ++ s.data.toList.drop (i + x.new.size)) := by
  unfold befB
  rw [ByteArray.data_append, ByteArray.data_append, Array.toList_append, Array.toList_append, Lib.extract_from_zero, Lib.extract_to_end, List.append_assoc]
theorem old_at {s p : ByteArray} (h1 : 1 ≤ p.size) (h : oneB s p = true) : at1 s p + p.size ≤ s.size ∧ s.data.toList = s.data.toList.take (at1 s p) ++ (p.data.toList ++ s.data.toList.drop (at1 s p + p.size)) := by
  rcases one_spec s p h1 with ⟨_, h2⟩ | ⟨i, hi, hle, _, hpl⟩
  · rw [h] at h2; cases h2
  · have e : at1 s p = i := by unfold at1; rw [hi]; omega
    have ho := (mem_places (i := i) h1).1 (by rw [hpl h]; simp)
    rw [e]
    refine ⟨hle, ?_⟩
    unfold Lib.occAt at ho
    obtain ⟨t, ht⟩ := List.isPrefixOf_iff_prefix.1 ho
    have e2 : s.data.toList.drop (i + p.size) = t := by
      rw [← List.drop_drop, ← ht, ← bsize_eq p, List.drop_left]
    rw [e2, ht, List.take_append_drop]
theorem fix_ne {s : ByteArray} {x : CO} (h : coOK x = true) (h1 : oneB s x.old = true) : ¬ fixB s x = s := by
  intro e
  obtain ⟨h2, h3⟩ := coOK_parts h
  obtain ⟨_, hd⟩ := old_at h2 h1
  have e2 := fix_data s x
  rw [e, hd] at e2
  have e3 : (s.data.toList.take (at1 s x.old) ++ (x.old.data.toList ++ s.data.toList.drop (at1 s x.old + x.old.size))) = s.data.toList.take (at1 s x.old) ++ (x.new.data.toList ++ s.data.toList.drop (at1 s x.old + x.old.size)) := by
    rw [← hd, ← fix_data, e]
  exact h3 (ba_ext (List.append_cancel_right (List.append_cancel_left e3)))
theorem corr_parts {l : List ByteArray} {x : CO} (h : corrG l x = true) : coOK x = true ∧ x.line.toNat < l.length ∧ ((x.line.toNat : Nat) : Int) = x.line ∧ oneB (lineAt l x) x.old = true ∧ lineB (fixB (lineAt l x) x) = true := by
  unfold corrG impG at h
  simp only [Bool.and_eq_true] at h
  obtain ⟨⟨h1, h2⟩, h3, h4⟩ := h
  have := inB_iff.1 h2
  exact ⟨h1, by omega, by omega, h3, h4⟩
theorem sh_parts {l : List ByteArray} {x : CO} (h : shG l x = true) : sheetB l = true ∧ corrG l x = true := by
  unfold shG at h
  simpa using h

theorem sh_all {l : List ByteArray} (h : sheetB l = true) : l.all lineB = true := by
  unfold sheetB at h
  rw [Bool.and_eq_true] at h
  exact h.1
/-! ### what one correction changes -/
theorem getD_set_ne {l : List ByteArray} {k j : Nat} (t : ByteArray) (h : j ≠ k) : (l.set k t).getD j ⟨#[]⟩ = l.getD j ⟨#[]⟩ := by
  rw [List.getD_eq_getElem?_getD, List.getD_eq_getElem?_getD, List.getElem?_set_ne (Ne.symm h)]
theorem getD_set_eq {l : List ByteArray} {k : Nat} (t : ByteArray) (h : k < l.length) : (l.set k t).getD k ⟨#[]⟩ = t := by
  rw [List.getD_eq_getElem?_getD, List.getElem?_set_self h]; rfl
theorem chg_set {l : List ByteArray} {k : Nat} {t : ByteArray} (hk : k < l.length) (hne : ¬ t = l.getD k ⟨#[]⟩) : chgTo l (l.set k t) l.length = [(k : Int)] := by
  unfold chgTo
  refine one_list ((List.nodup_range.filter _).map _ (fun a b h e => h (by omega))) ?_ ?_
  · refine List.mem_map.2 ⟨k, List.mem_filter.2 ⟨List.mem_range.2 hk, ?_⟩, rfl⟩
    unfold dif
    rw [getD_set_eq t hk, tl_eq, decide_eq_false (fun e => hne e.symm)]
    rfl
  · intro b hb
    obtain ⟨j, hj, rfl⟩ := List.mem_map.1 hb
    have hd := (List.mem_filter.1 hj).2
    by_cases e : j = k
    · rw [e]
    · exfalso
      unfold dif at hd
      rw [getD_set_ne t e] at hd
      simp at hd
theorem changed_one {l : List ByteArray} {x : CO} (h : shG l x = true) : allG l [x] = true ∧ chgL l [x] = [x.line] ∧ sheetB (shL l x) = true := by
  obtain ⟨hs, hc⟩ := sh_parts h
  obtain ⟨h1, h2, h3, h4, h5⟩ := corr_parts hc
  have ha : allC l [x] = some (corrL l x) := by simp [allC, hc]
  have hok : allOK l [x] = true := by simp [allOK, hs]
  have hg := allG_some ha hok
  refine ⟨hg, ?_, by rw [shL_yes h]; exact corrL_sheet hs hc⟩
  rw [chgL_yes hg, allL_some ha hok, corrL_yes hc, chg_set h2 (show ¬ fixB (lineAt l x) x = l.getD x.line.toNat ⟨#[]⟩ from fix_ne h1 h4), h3]

/-! ### found again -/
theorem only_all {l : List ByteArray} {b : ByteArray} (h : only l = some b) : b ∈ l ∧ ∀ c ∈ l, c = b := by
  unfold only at h
  cases l with
  | nil => cases h
  | cons a t =>
    simp only at h
    split at h
    · rename_i hall
      injection h with h
      subst h
      refine ⟨by simp, fun c hc => ?_⟩
      rcases List.mem_cons.1 hc with rfl | hc
      · rfl
      · exact of_decide_eq_true (List.all_eq_true.1 hall c hc)
    · cases h
theorem undo_parts {l : List ByteArray} {x : CO} {b : ByteArray} (h : undoO l x = some b) : sheetB l = true ∧ coOK x = true ∧ x.line.toNat < l.length ∧ inB x.line 0 ((l.length : Int) - 1) = true ∧ only (candsAll (lineAt l x) x) = some b := by
  unfold undoO at h
  split at h
  · rename_i hc
    simp only [Bool.and_eq_true] at hc
    obtain ⟨⟨h1, h2⟩, h3⟩ := hc
    have := inB_iff.1 h3
    exact ⟨h1, h2, by omega, h3, h⟩
  · cases h
theorem cand_of {s : ByteArray} {x : CO} (h1 : coOK x = true) (h4 : oneB s x.old = true) (h5 : lineB (fixB s x) = true) (hl : lineB s = true) : s ∈ candsAll (fixB s x) x := by
  obtain ⟨h2, h3⟩ := coOK_parts h1
  obtain ⟨hle, hd⟩ := old_at h2 h4
  obtain ⟨i, hi⟩ : ∃ i, i = at1 s x.old := ⟨_, rfl⟩
  rw [← hi] at hle hd
  have ht := fix_data s x
  rw [← hi] at ht
  have hg : good1 (fixB s x) x s = true := by
    unfold good1 impG
    rw [h4, h5, hl, impS_yes h4, tl_eq]
    simp
  obtain ⟨t, htt⟩ : ∃ t, t = fixB s x := ⟨_, rfl⟩
  rw [← htt] at ht hg ⊢
  have hlen : (s.data.toList.take i).length = i := by rw [List.length_take, bsize_eq]; omega
  have hb : befB t x i = s := by
    apply ba_ext
    have e1 : t.data.toList.take i = s.data.toList.take i := by rw [ht]; exact List.take_left' hlen
    have e2 : t.data.toList.drop (i + x.new.size) = s.data.toList.drop (i + x.old.size) := by
      rw [ht, ← List.append_assoc]
      exact List.drop_left' (by rw [List.length_append, hlen, bsize_eq])
    rw [bef_data, e1, e2, ← hd]
  have hocc : Lib.occAt t.data.toList x.new.data.toList i = true := by
    unfold Lib.occAt
    rw [List.isPrefixOf_iff_prefix, ht, List.drop_left' hlen]
    exact List.prefix_append _ _
  have hsz : i + x.new.size ≤ t.size := by
    rw [← bsize_eq t, ht, List.length_append, List.length_append, hlen, bsize_eq]
    omega
  unfold candsAll cands
  refine List.mem_filterMap.2 ⟨(i : Int), ?_, ?_⟩
  · unfold occs
    exact List.mem_map.2 ⟨i, List.mem_filter.2 ⟨List.mem_range.2 (by omega), hocc⟩, rfl⟩
  · unfold cand1
    rw [Int.toNat_natCast, hb, if_pos hg]
theorem set_same {l : List ByteArray} {k : Nat} (h : k < l.length) : l.set k (l.getD k ⟨#[]⟩) = l := by
  rw [List.getD_eq_getElem?_getD, List.getElem?_eq_getElem h]
  exact List.set_getElem_self h
theorem undo_of_correct {l : List ByteArray} {x : CO} {b : ByteArray} (h : shG l x = true) (hu : undoO (shL l x) x = some b) : undoL (shL l x) x = l := by
  obtain ⟨hs, hc⟩ := sh_parts h
  obtain ⟨h1, h2, h3, h4, h5⟩ := corr_parts hc
  obtain ⟨_, _, _, _, ho⟩ := undo_parts hu
  rw [undoL_yes hu]
  rw [shL_yes h, corrL_yes hc] at ho ⊢
  have e : lineAt (l.set x.line.toNat (fixB (lineAt l x) x)) x = fixB (lineAt l x) x := getD_set_eq _ h2
  rw [e] at ho
  have hl : lineB (lineAt l x) = true := sheet_line hs (by unfold lineAt; rw [List.getD_eq_getElem?_getD, List.getElem?_eq_getElem h2]; rfl)
  have := (only_all ho).2 _ (cand_of h1 h4 h5 hl)
  rw [← this, List.set_set]
  exact set_same h2
theorem mem_cands {s : ByteArray} {x : CO} {b : ByteArray} (h : b ∈ candsAll s x) : good1 s x b = true := by
  unfold candsAll cands at h
  obtain ⟨a, _, hb⟩ := List.mem_filterMap.1 h
  unfold cand1 at hb
  split at hb
  · rename_i hg
    injection hb with hb
    rw [← hb]; exact hg
  · cases hb
theorem sheet_set {l : List ByteArray} {k : Nat} {b : ByteArray} (hs : sheetB l = true) (hb : lineB b = true) : sheetB (l.set k b) = true := by
  unfold sheetB at hs ⊢
  rw [Bool.and_eq_true] at hs ⊢
  refine ⟨List.all_eq_true.2 fun s h => ?_, by simpa using hs.2⟩
  rcases List.mem_or_eq_of_mem_set h with h | rfl
  · exact List.all_eq_true.1 hs.1 s h
  · exact hb
theorem correct_of_undo {l : List ByteArray} {x : CO} {b : ByteArray} (hu : undoO l x = some b) : shG (undoL l x) x = true ∧ shL (undoL l x) x = l := by
  obtain ⟨hs, h1, h2, h3, ho⟩ := undo_parts hu
  have hg := mem_cands (only_all ho).1
  unfold good1 at hg
  simp only [Bool.and_eq_true] at hg
  obtain ⟨⟨hi, hl⟩, he⟩ := hg
  rw [undoL_yes hu]
  have e : lineAt (l.set x.line.toNat b) x = b := getD_set_eq _ h2
  have hc : corrG (l.set x.line.toNat b) x = true := by
    unfold corrG
    rw [e, h1, List.length_set, h3, hi]
    rfl
  have hsh : shG (l.set x.line.toNat b) x = true := by
    unfold shG
    rw [sheet_set hs hl, hc]
    rfl
  refine ⟨hsh, ?_⟩
  rw [shL_yes hsh, corrL_yes hc, e, List.set_set]
  unfold impG at hi
  rw [Bool.and_eq_true] at hi
  rw [impS_yes hi.1, tl_eq] at he
  rw [of_decide_eq_true he]
  exact set_same h2

/-! ### corrections in order -/
theorem all_start {l : List ByteArray} {xs : List CO} (h : allG l xs = true) : sheetB l = true ∧ allC l (xs.drop 0) = some (allL l xs) := by
  unfold allG at h
  rw [Bool.and_eq_true] at h
  obtain ⟨h1, h2⟩ := h
  obtain ⟨r, hr⟩ := Option.isSome_iff_exists.1 h2
  have := h1
  unfold allOK at this
  rw [Bool.and_eq_true] at this
  exact ⟨this.1, by rw [List.drop_zero, allL_some hr h1, hr]⟩
theorem all_step {l r : List ByteArray} {xs : List CO} {k : Nat} {x : CO} (hx : xs[k]? = some x) (hs : sheetB l = true) (h : allC l (xs.drop k) = some r) : shG l x = true ∧ allC (shL l x) (xs.drop (k + 1)) = some r ∧ sheetB (shL l x) = true := by
  cases hc : corrG l x with
  | false => rw [allC_no hx hc] at h; cases h
  | true =>
    have hsh : shG l x = true := by unfold shG; rw [hs, hc]; rfl
    rw [allC_yes hx hc] at h
    rw [shL_yes hsh]
    exact ⟨hsh, h, corrL_sheet hs hc⟩

end Go.Proofs.Ytmahfkimeclcbaa
