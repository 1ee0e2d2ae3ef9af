/-
  YtflmokdeekjjiaaMinM: minutes: what the law tells of complete minutes and of open motions: plain mathematics. No program in sight.
-/
import Derived.Test.YtflmokdeekjjiaaMinC
import Derived.Test.YtflmokdeekjjiaaMinD
namespace Go.Proofs.Ytflmokdeekjjiaa
open Go Go.RowKit Go.Sort
set_option linter.unusedVariables false

theorem fm_stay {α β : Type} {f : Nat → α → Option β} {l : List α} {k : Nat} (h : l[k]? = none) : fm f l (k + 1) = fm f l k := by
  unfold fm; rw [List.range_succ, List.filterMap_append]; simp [h]
theorem fm_head {α β : Type} {f : Nat → α → Option β} {l : List α} {x : α} {y : β} (h0 : l[0]? = some x) (hf : f 0 x = some y) : ∀ k, (fm f l (k + 1))[0]? = some y
  | 0 => by rw [fm_yes h0 hf, fm_zero]; rfl
  | k + 1 => by
    have ih := fm_head h0 hf k
    have hl : 0 < (fm f l (k + 1)).length := (List.getElem?_eq_some_iff.1 ih).1
    cases hx : l[k + 1]? with
    | none => rw [fm_stay hx]; exact ih
    | some z =>
      cases hz : f (k + 1) z with
      | none => rw [fm_no hx hz]; exact ih
      | some v => rw [fm_yes hx hz, List.getElem?_append_left hl]; exact ih
/-- What the law tells of complete minutes. -/
structure Comp (l : List EN) (who : ByteArray) : Prop where
  g : entG l who = true
  len : 2 ≤ (entL l who).length
  fst : (entL l who)[0]? = some 0
  lst : (entL l who)[(entL l who).length - 1]? = some ((l.length : Int) - 1)
theorem comp_of {l : List EN} {x : EN} (h : compB l = true) (hx : l[0]? = some x) : Comp l x.who ∧ 2 ≤ l.length := by
  unfold compB at h
  rw [Bool.and_eq_true, Bool.and_eq_true] at h
  obtain ⟨hm, he, _⟩ := h
  unfold endsB at he
  simp only [Bool.and_eq_true, decide_eq_true_eq] at he
  obtain ⟨h2, hk1, hk6, hw⟩ := he
  have ef : firstE l = x := get_D hx
  obtain ⟨z, hz⟩ : ∃ z, l[l.length - 1]? = some z := ⟨_, List.getElem?_eq_getElem (by omega)⟩
  have el : lastE l = z := get_D hz
  rw [ef] at hk1 hw
  rw [el] at hw
  have hmm := hm
  unfold minB at hmm
  rw [Bool.and_eq_true] at hmm
  have hok : EnOK x := of_decide_eq_true (List.all_eq_true.1 hmm.1 x (List.mem_of_getElem? hx))
  have hwd : wordB x.who = true := by
    rcases hok with h9 | h9 | h9 | h9
    · exact h9.2.1
    · exact h9.2.1
    · rw [hk1] at h9; omega
    · exact h9.2.1
  have hG : entG l x.who = true := by unfold entG; rw [hm, hwd]; rfl
  have f0 : entF x.who 0 x = some 0 := by simp [entF]
  have fl : entF x.who (l.length - 1) z = some ((l.length : Int) - 1) := by
    unfold entF
    rw [show (z.who.toList == x.who.toList) = true by rw [beq_iff_eq] at hw ⊢; exact hw.symm, if_pos rfl]
    congr 1
    omega
  have e : entL l x.who = fm (entF x.who) l (l.length - 1) ++ [(l.length : Int) - 1] := by
    have h9 := fm_yes (k := l.length - 1) hz fl
    rw [entL_yes hG]
    rw [show l.length - 1 + 1 = l.length by omega] at h9
    exact h9
  have hh : (fm (entF x.who) l (l.length - 1))[0]? = some 0 := by
    have := fm_head (f := entF x.who) hx f0 (l.length - 2)
    rw [show l.length - 2 + 1 = l.length - 1 by omega] at this
    exact this
  have hp : 0 < (fm (entF x.who) l (l.length - 1)).length := (List.getElem?_eq_some_iff.1 hh).1
  refine ⟨⟨hG, ?_, ?_, ?_⟩, h2⟩
  · rw [e]; simp; omega
  · rw [e, List.getElem?_append_left hp]; exact hh
  · rw [e]; simp
/-- The kind of the last of the first k entries that moved a motion or voted on it. -/
def lastK (l : List EN) (m : ByteArray) : Nat → Int
  | 0 => 0
  | k + 1 => match l[k]? with
    | some y => if hit m y then y.kind else lastK l m k
    | none => lastK l m k
theorem lastK_yes {l : List EN} {m : ByteArray} {k : Nat} {y : EN} (h : l[k]? = some y) (hh : hit m y = true) : lastK l m (k + 1) = y.kind := by simp [lastK, h, hh]
theorem lastK_no {l : List EN} {m : ByteArray} {k : Nat} {y : EN} (h : l[k]? = some y) (hh : hit m y = false) : lastK l m (k + 1) = lastK l m k := by simp [lastK, h, hh]
theorem open_last {l : List EN} {m : ByteArray} (h : m ∈ opL l) : lastK l m l.length = 2 := by
  unfold opL at h
  split at h
  · unfold opP at h
    obtain ⟨i, x, hi, hx, hf⟩ := fm_mem h
    rw [opF_all] at hf
    split at hf
    · rename_i hc
      rw [Bool.and_eq_true, Bool.not_eq_true'] at hc
      injection hf with hf
      subst hf
      have hk : x.kind = 2 := of_decide_eq_true hc.1
      have h0 : lastK l x.mo (i + 1) = 2 := by
        rw [lastK_yes hx (by simp [hit, hk]), hk]
      have hstep : ∀ d, i + 1 + d ≤ l.length → lastK l x.mo (i + 1 + d) = 2 := by
        intro d
        induction d with
        | zero => intro _; exact h0
        | succ d ih =>
          intro hd
          have hlt : i + 1 + d < l.length := by omega
          have hy := List.getElem?_eq_getElem hlt
          have hn : hit x.mo l[i + 1 + d] = false := by
            have h9 := List.any_eq_false.1 hc.2 (l[i + 1 + d]) (List.mem_iff_getElem?.2 ⟨d, by rw [List.getElem?_drop]; exact hy⟩)
            simpa using h9
          rw [← Nat.add_assoc, lastK_no hy hn]
          exact ih (by omega)
      have := hstep (l.length - (i + 1)) (by omega)
      rw [show i + 1 + (l.length - (i + 1)) = l.length by omega] at this
      exact this
    · cases hf
  · cases h

end Go.Proofs.Ytflmokdeekjjiaa
