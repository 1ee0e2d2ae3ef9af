/-
  YthphjncgbaknnaaGreatDoorMinJ: ParseMinutes: minutes as their parts by full stops. (Printed by wip/gen/minj.py.)
-/
import Derived.Test.YthphjncgbaknnaaGreatDoorMinP
import Derived.Test.YthphjncgbaknnaaGreatDoorMinY
namespace Go.Proofs.YthphjncgbaknnaaGreatDoor
open Go Go.RowKit Go.Sort
set_option linter.unusedVariables false

/-- A sentence without its full stop. -/
def bodE (x : EN) : ByteArray := joinS (wds x) sp
theorem join_not {b : UInt8} (hb : b ∉ sp.data.toList) : ∀ {ws : List ByteArray}, (∀ w ∈ ws, b ∉ w.data.toList) → b ∉ (joinS ws sp).data.toList
  | [], _ => by unfold joinS; simp [Lib.join]
  | [w], h => by rw [joinS_one]; exact h w (by simp)
  | w :: v :: r, h => by
    rw [joinS_cons w (by simp)]
    have e : (w ++ sp ++ joinS (v :: r) sp).data.toList = w.data.toList ++ sp.data.toList ++ (joinS (v :: r) sp).data.toList := by simp
    rw [e]
    simp only [List.mem_append, not_or]
    exact ⟨⟨h w (by simp), hb⟩, join_not hb (fun x hx => h x (by simp only [List.mem_cons] at hx ⊢; exact .inr hx))⟩
theorem bodE_not {x : EN} (h : EnOK x) : (46 : UInt8) ∉ (bodE x).data.toList := join_not (by decide) (wds_not h (.inr rfl))
def dotB : ByteArray := ⟨#[46]⟩
theorem sen_bod {x : EN} (h : EnOK x) : senS x = bodE x ++ dotB := sen_wds h
theorem menT_cons (x : EN) {r : List EN} (h : r ≠ []) : menT (x :: r) = senS x ++ sp ++ menT r := by
  unfold menT
  rw [List.map_cons]
  exact joinS_cons _ (by simpa using h) sp
theorem menT_one (x : EN) : menT [x] = senS x := by unfold menT; rw [List.map_cons, List.map_nil, joinS_one]
theorem men_cut : ∀ {l : List EN}, (∀ x ∈ l, EnOK x) → ∀ pre : ByteArray, (46 : UInt8) ∉ pre.data.toList → l ≠ [] →
    (cutS (pre ++ menT l) 46).length = l.length + 1 ∧ ∀ j x, l[j]? = some x → (cutS (pre ++ menT l) 46)[j]? = some ((if j = 0 then pre else sp) ++ bodE x)
  | [], _, _, _, h => absurd rfl h
  | [x], hl, pre, hp, _ => by
    have hx := hl x (by simp)
    have hb : (46 : UInt8) ∉ (pre ++ bodE x).data.toList := by
      have e : (pre ++ bodE x).data.toList = pre.data.toList ++ (bodE x).data.toList := by simp
      rw [e, List.mem_append, not_or]
      exact ⟨hp, bodE_not hx⟩
    have e : pre ++ menT [x] = pre ++ bodE x ++ ⟨#[46]⟩ ++ ⟨#[]⟩ := by
      rw [menT_one, sen_bod hx]
      apply ByteArray.ext; rw [← Array.toList_inj]; simp [dotB]
    rw [e, cutS_app hb, cutS_end (by decide)]
    refine ⟨rfl, fun j y hy => ?_⟩
    cases j with
    | zero => cases hy; rfl
    | succ j => cases hy
  | x :: v :: r, hl, pre, hp, _ => by
    have hx := hl x (by simp)
    have hb : (46 : UInt8) ∉ (pre ++ bodE x).data.toList := by
      have e : (pre ++ bodE x).data.toList = pre.data.toList ++ (bodE x).data.toList := by simp
      rw [e, List.mem_append, not_or]
      exact ⟨hp, bodE_not hx⟩
    have e : pre ++ menT (x :: v :: r) = pre ++ bodE x ++ ⟨#[46]⟩ ++ (sp ++ menT (v :: r)) := by
      rw [menT_cons x (by simp), sen_bod hx]
      apply ByteArray.ext; rw [← Array.toList_inj]; simp [dotB]
    obtain ⟨h1, h2⟩ := men_cut (l := v :: r) (fun y hy => hl y (by simp only [List.mem_cons] at hy ⊢; exact .inr hy)) sp (by decide) (by simp)
    rw [e, cutS_app hb]
    refine ⟨by rw [List.length_cons, h1]; rfl, fun j y hy => ?_⟩
    cases j with
    | zero => cases hy; rfl
    | succ j =>
      rw [List.getElem?_cons_succ] at hy ⊢
      rw [h2 j y hy, if_neg (Nat.succ_ne_zero j)]
      split <;> rfl
/-- A part as the reference reads it: at the place i. -/
def pwS (w : ByteArray) (i : Nat) : ByteArray := (if 0 < i ∧ 0 < w.size then w.extract 1 w.size else w) ++ dotB
theorem pwS_men {l : List EN} (hl : ∀ x ∈ l, EnOK x) (hn : l ≠ []) {j : Nat} {x : EN} (hx : l[j]? = some x) : ∃ w, (cutS (menT l) 46)[j]? = some w ∧ pwS w j = senS x := by
  have h := (men_cut hl ⟨#[]⟩ (by decide) hn).2 j x hx
  have e0 : (⟨#[]⟩ : ByteArray) ++ menT l = menT l := by apply ByteArray.ext; rw [← Array.toList_inj]; simp
  rw [e0] at h
  refine ⟨_, h, ?_⟩
  rw [sen_bod (hl x (List.mem_of_getElem? hx))]
  unfold pwS
  by_cases hj : j = 0
  · rw [if_pos hj, if_neg (by omega)]
    apply ByteArray.ext; rw [← Array.toList_inj]; simp
  · have hs : (sp ++ bodE x).size = (bodE x).size + 1 := by rw [ByteArray.size_append]; show 1 + _ = _; omega
    rw [if_neg hj, if_pos ⟨by omega, by omega⟩]
    apply ByteArray.ext
    rw [← Array.toList_inj]
    have e : ((sp ++ bodE x).extract 1 (sp ++ bodE x).size).data.toList = (sp ++ bodE x).data.toList.drop 1 := Lib.extract_to_end _ 1
    have e2 : ((sp ++ bodE x).extract 1 (sp ++ bodE x).size ++ dotB).data.toList = ((sp ++ bodE x).extract 1 (sp ++ bodE x).size).data.toList ++ dotB.data.toList := by simp
    rw [e2, e]
    simp [sp]
theorem men_len {l : List EN} (hl : ∀ x ∈ l, EnOK x) (hn : l ≠ []) : (cutS (menT l) 46).length = l.length + 1 := by
  have h := (men_cut hl ⟨#[]⟩ (by decide) hn).1
  have e0 : (⟨#[]⟩ : ByteArray) ++ menT l = menT l := by apply ByteArray.ext; rw [← Array.toList_inj]; simp
  rwa [e0] at h
theorem menT_81 {l : List EN} (hg : l.all enOK = true) : ∀ k, (menT (l.take k)).size ≤ 81 * k := by
  intro k
  induction k with
  | zero => exact Nat.le_refl _
  | succ k ih =>
    by_cases hk : k < l.length
    · have hs : l[k]? = some l[k] := List.getElem?_eq_getElem hk
      have hok := of_decide_eq_true (List.all_eq_true.1 hg _ (List.getElem_mem hk))
      have h80 := (senS_80 hok).1
      by_cases h0 : k = 0
      · rw [menT_0 hs h0]; omega
      · rw [menT_1 hs h0, ByteArray.size_append, ByteArray.size_append]
        have : sp.size = 1 := rfl
        omega
    · rw [List.take_of_length_le (by omega)] at ih ⊢
      omega
end Go.Proofs.YthphjncgbaknnaaGreatDoor
