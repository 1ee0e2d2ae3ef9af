/-
  YthphjncgbaknnaaGreatDoorMinK: ParseMinutes: the plain law: what both sides give; minutes as the pieces of SplitAfter. (Printed by wip/gen/mink.py.)
-/
import Derived.Test.YthphjncgbaknnaaGreatDoorMinJ
import Derived.Test.YthphjncgbaknnaaGreatDoorMinL
namespace Go.Proofs.YthphjncgbaknnaaGreatDoor
open Go Go.RowKit Go.Sort
set_option linter.unusedVariables false

/-- What both ParseMinutes give. -/
def outM (s : ByteArray) : List EN := (List.range ((cutS s 46).length - 1)).map (fun j => (parE (pwS ((cutS s 46).getD j ⟨#[]⟩) j)).1)
def parM (s : ByteArray) : List EN × Bool := if s.size ≤ 1700 ∧ minB (outM s) = true ∧ menT (outM s) = s then (outM s, true) else ([], false)
theorem minB_ok {l : List EN} (h : minB l = true) : ∀ x ∈ l, EnOK x := fun x hx => of_decide_eq_true (List.all_eq_true.1 (minB_all h).1 x hx)
theorem men_1700 {l : List EN} (h : minB l = true) : (menT l).size ≤ 1700 := by
  have := menT_81 (minB_all h).1 l.length
  rw [List.take_length] at this
  have := (minB_all h).2
  omega
theorem outM_men {l : List EN} (h : minB l = true) : outM (menT l) = l := by
  by_cases hn : l = []
  · subst hn; rfl
  have hl := minB_ok h
  unfold outM
  rw [men_len hl hn, Nat.add_sub_cancel]
  apply List.ext_getElem?
  intro j
  rw [List.getElem?_map]
  by_cases hj : j < l.length
  · have hx : l[j]? = some l[j] := List.getElem?_eq_getElem hj
    obtain ⟨w, hw, he⟩ := pwS_men hl hn hx
    rw [List.getElem?_range hj, hx, Option.map_some, List.getD_eq_getElem?_getD, hw]
    show some (parE (pwS w j)).1 = _
    rw [he, parE_hit (decide_eq_true (hl _ (List.getElem_mem hj))) rfl]
  · rw [List.getElem?_eq_none (by rw [List.length_range]; omega), List.getElem?_eq_none (by omega)]; rfl
theorem parM_hit {s : ByteArray} {l : List EN} (h : minB l = true) (e : menT l = s) : parM s = (l, true) := by
  subst e
  unfold parM
  rw [outM_men h, if_pos ⟨men_1700 h, h, rfl⟩]
theorem parM_none {s : ByteArray} (h : ∀ l, minB l = true → menT l ≠ s) : parM s = ([], false) := by
  unfold parM
  exact if_neg (fun e => h _ e.2.1 e.2.2)
theorem parM_len (s : ByteArray) : (parM s).1.length ≤ 20 := by
  unfold parM
  split
  · rename_i h; exact (minB_all h.2.1).2
  · exact Nat.zero_le _

/-! ### the pieces -/
def dsp : ByteArray := ⟨#[46, 32]⟩
theorem index_at {p r : List UInt8} (h : (46 : UInt8) ∉ p) : Lib.index (p ++ 46 :: 32 :: r) [46, 32] = (p.length : Int) := by
  have hocc : Lib.occAt (p ++ 46 :: 32 :: r) [46, 32] p.length = true := by
    unfold Lib.occAt
    simp [List.isPrefixOf]
  rcases Lib.index_spec (p ++ 46 :: 32 :: r) [46, 32] with ⟨_, hn⟩ | ⟨i, hi, hle, ho, hno⟩
  · have := hn p.length (by simp)
    rw [hocc] at this
    cases this
  · have h46 := Lib.occAt_head rfl ho
    have : i = p.length := by
      rcases Nat.lt_trichotomy i p.length with hlt | he | hgt
      · rw [List.getElem?_append_left hlt] at h46
        exact absurd (List.mem_of_getElem? h46) h
      · exact he
      · have := hno p.length hgt
        rw [hocc] at this
        cases this
    omega
theorem index_none {p : List UInt8} (h : (46 : UInt8) ∉ p) : Lib.index (p ++ [46]) [46, 32] = -1 := by
  rcases Lib.index_spec (p ++ [46]) [46, 32] with ⟨h1, _⟩ | ⟨i, hi, hle, ho, hno⟩
  · exact h1
  · exfalso
    have h46 := Lib.occAt_head rfl ho
    rcases Nat.lt_trichotomy i p.length with hlt | he | hgt
    · rw [List.getElem?_append_left hlt] at h46
      exact h (List.mem_of_getElem? h46)
    · subst he
      unfold Lib.occAt at ho
      simp [List.isPrefixOf] at ho
    · rw [List.getElem?_eq_none (by simp; omega)] at h46
      cases h46
def pcs : List EN → List ByteArray
  | [] => []
  | [x] => [senS x]
  | x :: v :: r => (senS x ++ sp) :: pcs (v :: r)
theorem men_data {x v : EN} {r : List EN} (hx : EnOK x) : (menT (x :: v :: r)).data.toList = (bodE x).data.toList ++ 46 :: 32 :: (menT (v :: r)).data.toList := by
  rw [menT_cons x (by simp), sen_bod hx]
  simp [dotB, sp]
theorem men_index {x v : EN} {r : List EN} (hx : EnOK x) : Lib.indexB (menT (x :: v :: r)) dsp = ((bodE x).size : Int) := by
  show Lib.index (menT (x :: v :: r)).data.toList [46, 32] = _
  rw [men_data hx, index_at (bodE_not hx)]
  rfl
theorem men_rest {x v : EN} {r : List EN} (hx : EnOK x) : (menT (x :: v :: r)).extract ((bodE x).size + 2) (menT (x :: v :: r)).size = menT (v :: r) := by
  apply ByteArray.ext
  rw [← Array.toList_inj]
  have e : ((menT (x :: v :: r)).extract ((bodE x).size + 2) (menT (x :: v :: r)).size).data.toList = (menT (x :: v :: r)).data.toList.drop ((bodE x).size + 2) := Lib.extract_to_end _ _
  have e2 : (bodE x).size = (bodE x).data.toList.length := rfl
  rw [e, men_data hx, e2]
  simp [List.drop_append]
theorem men_head {x v : EN} {r : List EN} (hx : EnOK x) : (menT (x :: v :: r)).extract 0 ((bodE x).size + 2) = senS x ++ sp := by
  apply ByteArray.ext
  rw [← Array.toList_inj]
  have e2 : (bodE x).size = (bodE x).data.toList.length := rfl
  rw [Lib.extract_from_zero, men_data hx, e2, sen_bod hx]
  simp [dotB, sp, List.take_append]
  exact List.take_of_length_le (by rw [← e2]; omega)
theorem split_men : ∀ {l : List EN}, (∀ x ∈ l, EnOK x) → l ≠ [] → ∀ k, l.length ≤ k + 1 → Lib.splitB dsp 2 k (menT l) = pcs l
  | [], _, h, _, _ => absurd rfl h
  | [x], hl, _, k, _ => by
    rw [menT_one, Lib.splitB_miss]
    · rfl
    · show Lib.index (senS x).data.toList [46, 32] = -1
      have e : (senS x).data.toList = (bodE x).data.toList ++ [46] := by rw [sen_bod (hl x (by simp))]; simp [dotB]
      rw [e, index_none (bodE_not (hl x (by simp)))]
  | x :: v :: r, hl, _, k, hk => by
    have hx := hl x (by simp)
    obtain ⟨k', rfl⟩ : ∃ k', k = k' + 1 := ⟨k - 1, by simp at hk; omega⟩
    have hz : dsp.size = 2 := rfl
    rw [Lib.splitB_hit dsp 2 k' _ (bodE x).size (men_index hx), hz, men_rest hx, men_head hx, split_men (l := v :: r) (fun y hy => hl y (by simp only [List.mem_cons] at hy ⊢; exact .inr hy)) (by simp) k' (by simp at hk ⊢; omega)]
    rfl
theorem count_men : ∀ {l : List EN}, (∀ x ∈ l, EnOK x) → l.length ≤ Lib.countB (menT l) dsp + 1
  | [], _ => Nat.zero_le _
  | [x], _ => by simp
  | x :: v :: r, hl => by
    have hx := hl x (by simp)
    have hz : dsp.size = 2 := rfl
    have h := Lib.countB_hit (menT (x :: v :: r)) dsp (bodE x).size (by rw [hz]; omega) (men_index hx)
    rw [hz, men_rest hx] at h
    have ih := count_men (l := v :: r) (fun y hy => hl y (by simp only [List.mem_cons] at hy ⊢; exact .inr hy))
    rw [h]
    simp at ih ⊢
    omega
/-- A piece without its space. -/
def trimP (s : ByteArray) : ByteArray := ⟨(Lib.trimSuffix s.data.toList [32]).toArray⟩
theorem trimP_sp (s : ByteArray) : trimP (s ++ sp) = s := by
  have hd : (s ++ sp).data.toList = s.data.toList ++ [32] := by simp [sp]
  unfold trimP
  rw [hd]
  have e2 : Lib.trimSuffix (s.data.toList ++ [32]) [32] = s.data.toList := by
    unfold Lib.trimSuffix Lib.hasSuffix
    rw [if_pos (List.isSuffixOf_iff_suffix.2 (List.suffix_append _ _))]
    simp
  rw [e2]
theorem trimP_sen {x : EN} (h : EnOK x) : trimP (senS x) = senS x := by
  have hd : (senS x).data.toList = (bodE x).data.toList ++ [46] := by rw [sen_bod h]; simp [dotB]
  unfold trimP
  have e2 : Lib.trimSuffix (senS x).data.toList [32] = (senS x).data.toList := by
    unfold Lib.trimSuffix Lib.hasSuffix
    rw [if_neg]
    intro hs
    obtain ⟨t, ht⟩ := List.isSuffixOf_iff_suffix.1 hs
    rw [hd] at ht
    have := congrArg List.getLast? ht
    simp at this
  rw [e2]
theorem pcs_len : ∀ l : List EN, (pcs l).length = l.length
  | [] => rfl
  | [x] => rfl
  | x :: v :: r => by rw [pcs, List.length_cons, pcs_len (v :: r)]; rfl
theorem pcs_at : ∀ {l : List EN}, (∀ x ∈ l, EnOK x) → ∀ {j : Nat} {x : EN}, l[j]? = some x → ∃ p, (pcs l)[j]? = some p ∧ trimP p = senS x
  | [], _, j, x, h => by cases h
  | [x], hl, j, y, h => by
    cases j with
    | zero => cases h; exact ⟨_, rfl, trimP_sen (hl _ (by simp))⟩
    | succ j => cases h
  | x :: v :: r, hl, j, y, h => by
    cases j with
    | zero => cases h; exact ⟨_, rfl, trimP_sp _⟩
    | succ j =>
      rw [List.getElem?_cons_succ] at h
      rw [pcs, List.getElem?_cons_succ]
      exact pcs_at (l := v :: r) (fun z hz => hl z (by simp only [List.mem_cons] at hz ⊢; exact .inr hz)) h
end Go.Proofs.YthphjncgbaknnaaGreatDoor
