/-
  YtndoapgalbljpaaDepM: clauses that depend on others: the plain mathematics of the marks. No program in sight.
-/
import Derived.Test.YtndoapgalbljpaaDivM
namespace Go.Proofs.Ytndoapgalbljpaa
open Go Go.RowKit Go.Sort
set_option linter.unusedVariables false

theorem chP_succ (n : Nat) (p : Nat → Bool) : chP (n + 1) p = chP n p ++ if p n then [(n : Int)] else [] := by
  unfold chP
  rw [List.range_succ, List.map_append, List.map_singleton, chs_snoc]
  simp
theorem chP_none {n : Nat} {p : Nat → Bool} (h : ∀ k, k < n → p k = false) : chP n p = [] := by
  apply List.eq_nil_iff_forall_not_mem.2
  intro y hy
  have h1 := mem_chP.1 hy
  rw [h y.toNat (by omega)] at h1
  exact absurd h1.2.2 (by simp)
theorem has_chP {n : Nat} {p : Nat → Bool} {y : Int} (h0 : 0 ≤ y) (h1 : y < n) : (chP n p).contains y = p y.toNat := by
  have h := mem_chP (n := n) (p := p) (y := y)
  cases hp : p y.toNat
  · rw [hp] at h; simp at h; simp [h]
  · rw [hp] at h; simp [h0, h1] at h; simp [h]
theorem depB_any {l : List CL} {k i : Nat} : depB l k i = (nd l k).any (fun y => decide (0 ≤ y) && (decide (y = (i : Int)) || depB l y.toNat i)) := by
  rw [Bool.eq_iff_iff, depB_iff, List.any_eq_true]
  constructor
  · intro h
    cases h with
    | one h => exact ⟨_, h, by simp⟩
    | @step _ m _ h h2 => exact ⟨_, h, by simp [depB_iff.2 h2]⟩
  · rintro ⟨y, hy, h⟩
    simp only [Bool.and_eq_true, Bool.or_eq_true, decide_eq_true_eq] at h
    obtain ⟨h0, h⟩ := h
    obtain ⟨m, rfl⟩ := Int.eq_ofNat_of_zero_le h0
    rcases h with h | h
    · have : m = i := by omega
      subst this; exact .one hy
    · rw [Int.toNat_natCast] at h; exact .step hy (depB_iff.1 h)
/-- True set at some places. -/
def setT (bs : List Bool) (ys : List Int) : List Bool := ys.foldl (fun b y => b.set y.toNat true) bs
theorem setT_len : ∀ (ys : List Int) (bs : List Bool), (setT bs ys).length = bs.length
  | [], _ => rfl
  | y :: ys, bs => by
    have := setT_len ys (bs.set y.toNat true)
    simpa [setT] using this
theorem setT_get : ∀ (ys : List Int) (bs : List Bool) (m : Nat), m < bs.length → (setT bs ys).getD m false = (ys.any (fun y => decide (y.toNat = m)) || bs.getD m false)
  | [], bs, m, _ => by simp [setT]
  | y :: ys, bs, m, h => by
    have h1 := setT_get ys (bs.set y.toNat true) m (by simpa using h)
    rw [show setT bs (y :: ys) = setT (bs.set y.toNat true) ys from rfl, h1, List.any_cons]
    by_cases e : y.toNat = m
    · subst e; simp [List.getD, h]
    · simp [List.getD, List.getElem?_set_ne e, e]
theorem setT_snoc (bs : List Bool) (ys : List Int) (y : Int) : setT bs (ys ++ [y]) = (setT bs ys).set y.toNat true := by simp [setT]
theorem setT_next {bs : List Bool} {ys : List Int} {t : Nat} {y : Int} (h : ys[t]? = some y) : setT bs (ys.take (t + 1)) = (setT bs (ys.take t)).set y.toNat true := by
  rw [List.take_add_one, h]; exact setT_snoc _ _ _
/-- What is marked when the clauses from p on have been looked at. -/
def Seen (l : List CL) (i p : Nat) (bs : List Bool) : Prop := bs.length = l.length ∧ ∀ m, m < l.length → (bs.getD m false = true ↔ ∃ s, p ≤ s ∧ (s = i ∨ Dep l i s) ∧ (m : Int) ∈ nd l s)
theorem seen_start {l : List CL} (hv : clsB l = true) {i : Nat} : Seen l i (i + 1) (List.replicate l.length false) := by
  refine ⟨by simp, fun m hm => ?_⟩
  constructor
  · intro h; simp [List.getD, hm] at h
  · rintro ⟨s, h1, h2, _⟩
    rcases h2 with rfl | h2
    · omega
    · have := h2.lt hv; omega
theorem seen_act {l : List CL} (hv : clsB l = true) {i p : Nat} {bs : List Bool} (h : Seen l i (p + 1) bs) (hp : p < l.length) : bs.getD p false = true ↔ Dep l i p := by
  rw [h.2 p hp]
  constructor
  · rintro ⟨s, _, h2, h3⟩
    rcases h2 with rfl | h2
    · exact .one h3
    · exact h2.snoc h3
  · intro hd
    obtain ⟨s, hs, h2⟩ := hd.last
    have := nd_bd hv h2
    exact ⟨s, by omega, hs, h2⟩
theorem seen_yes {l : List CL} (hv : clsB l = true) {i p : Nat} {bs : List Bool} (h : Seen l i (p + 1) bs) (hp : p < l.length) (ha : p = i ∨ Dep l i p) : Seen l i p (setT bs (nd l p)) := by
  refine ⟨by rw [setT_len]; exact h.1, fun m hm => ?_⟩
  rw [setT_get _ _ _ (by rw [h.1]; exact hm), Bool.or_eq_true, h.2 m hm, List.any_eq_true]
  constructor
  · rintro (⟨y, hy, e⟩ | ⟨s, h1, h2, h3⟩)
    · have hb := nd_bd hv hy
      have e' : y.toNat = m := by simpa using e
      refine ⟨p, Nat.le_refl _, ha, ?_⟩
      rw [show (m : Int) = y by omega]; exact hy
    · exact ⟨s, by omega, h2, h3⟩
  · rintro ⟨s, h1, h2, h3⟩
    by_cases e : s = p
    · subst e; exact .inl ⟨_, h3, by simp⟩
    · exact .inr ⟨s, by omega, h2, h3⟩
theorem seen_no {l : List CL} {i p : Nat} {bs : List Bool} (h : Seen l i (p + 1) bs) (ha : ¬ (p = i ∨ Dep l i p)) : Seen l i p bs := by
  refine ⟨h.1, fun m hm => ?_⟩
  rw [h.2 m hm]
  constructor
  · rintro ⟨s, h1, h2, h3⟩; exact ⟨s, by omega, h2, h3⟩
  · rintro ⟨s, h1, h2, h3⟩
    by_cases e : s = p
    · subst e; exact absurd h2 ha
    · exact ⟨s, by omega, h2, h3⟩
theorem seen_end {l : List CL} {i : Nat} {bs : List Bool} (h : Seen l i 0 bs) : bs = dpB l i := by
  apply List.ext_getElem?
  intro m
  by_cases hm : m < l.length
  · have h1 := h.2 m hm
    have h2 : (bs.getD m false = true) ↔ (depB l i m = true) := by
      rw [h1, depB_iff]
      constructor
      · rintro ⟨s, _, h2, h3⟩
        rcases h2 with rfl | h2
        · exact .one h3
        · exact h2.snoc h3
      · intro hd
        obtain ⟨s, hs, h2⟩ := hd.last
        exact ⟨s, Nat.zero_le _, hs, h2⟩
    obtain ⟨b, h3⟩ : ∃ b, bs[m]? = some b := ⟨_, List.getElem?_eq_getElem (by rw [h.1]; exact hm)⟩
    have h4 : (dpB l i)[m]? = some (depB l i m) := by unfold dpB; rw [List.getElem?_map, List.getElem?_range hm]; rfl
    rw [h3, h4]
    congr 1
    rw [Bool.eq_iff_iff]
    rw [← h2]
    simp [List.getD, h3]
  · rw [List.getElem?_eq_none (by rw [h.1]; omega), List.getElem?_eq_none (by simp [dpB]; omega)]
theorem dpB_get {l : List CL} {k i : Nat} (hi : i < l.length) : (dpB l k)[i]? = some (depB l k i) := by unfold dpB; rw [List.getElem?_map, List.getElem?_range hi]; rfl

end Go.Proofs.Ytndoapgalbljpaa
