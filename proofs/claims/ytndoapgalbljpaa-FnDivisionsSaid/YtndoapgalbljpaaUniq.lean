/-
  YtndoapgalbljpaaUniq: numbers in strictly rising order: what compact makes of a sorted list, what insertion makes; two such lists with the same members are one. No program in sight.
-/
import Derived.Test.YtndoapgalbljpaaCommon
import Derived.Lib.SlicesCompact
namespace Go.Proofs.Ytndoapgalbljpaa
open Go Go.RowKit Go.Sort

theorem rise_ext : ∀ {a b : List Int}, a.Pairwise (· < ·) → b.Pairwise (· < ·) → (∀ x, x ∈ a ↔ x ∈ b) → a = b
  | [], [], _, _, _ => rfl
  | [], y :: t, _, _, h => absurd ((h y).2 (by simp)) (by simp)
  | x :: s, [], _, _, h => absurd ((h x).1 (by simp)) (by simp)
  | x :: s, y :: t, ha, hb, h => by
    rw [List.pairwise_cons] at ha hb
    have hxy : x = y := by
      have h1 := (h x).1 (by simp)
      have h2 := (h y).2 (by simp)
      rcases List.mem_cons.1 h1 with h1 | h1
      · exact h1
      · rcases List.mem_cons.1 h2 with h2 | h2
        · exact h2.symm
        · have := hb.1 x h1; have := ha.1 y h2; omega
    subst hxy
    rw [rise_ext ha.2 hb.2 (fun z => by
      have hz := h z
      constructor
      · intro hm
        rcases List.mem_cons.1 (hz.1 (List.mem_cons_of_mem _ hm)) with e | e
        · have := ha.1 z hm; omega
        · exact e
      · intro hm
        rcases List.mem_cons.1 (hz.2 (List.mem_cons_of_mem _ hm)) with e | e
        · have := hb.1 z hm; omega
        · exact e)]

/-- A number put into a strictly rising list. -/
def putZ (x : Int) : List Int → List Int
  | [] => [x]
  | y :: t => if y < x then y :: putZ x t else if y = x then y :: t else x :: y :: t
theorem mem_putZ (x z : Int) : ∀ l, z ∈ putZ x l ↔ z = x ∨ z ∈ l
  | [] => by simp [putZ]
  | y :: t => by
    unfold putZ
    split
    · rw [List.mem_cons, mem_putZ x z t, List.mem_cons]; constructor <;> (intro h; rcases h with h | h | h <;> simp [h])
    · split
      · rename_i h; subst h; simp
      · simp
theorem rise_putZ (x : Int) : ∀ {l : List Int}, l.Pairwise (· < ·) → (putZ x l).Pairwise (· < ·)
  | [], _ => by simp [putZ]
  | y :: t, h => by
    unfold putZ
    have h0 := h
    rw [List.pairwise_cons] at h
    split
    · rename_i hy
      rw [List.pairwise_cons]
      refine ⟨fun z hz => ?_, rise_putZ x h.2⟩
      rcases (mem_putZ x z t).1 hz with e | e
      · omega
      · exact h.1 z e
    · split
      · exact h0
      · rw [List.pairwise_cons]
        refine ⟨fun z hz => ?_, h0⟩
        rcases List.mem_cons.1 hz with e | e
        · omega
        · have := h.1 z e; omega
/-- All of a list put in one after the other. -/
def putAll (l : List Int) : List Int := l.foldl (fun a x => putZ x a) []
theorem putAll_snoc (l : List Int) (x : Int) : putAll (l ++ [x]) = putZ x (putAll l) := by simp [putAll]
theorem putAll_spec (l : List Int) : (putAll l).Pairwise (· < ·) ∧ ∀ z, z ∈ putAll l ↔ z ∈ l := by
  suffices H : ∀ (l a : List Int), a.Pairwise (· < ·) → (l.foldl (fun a x => putZ x a) a).Pairwise (· < ·) ∧ ∀ z, z ∈ l.foldl (fun a x => putZ x a) a ↔ z ∈ l ∨ z ∈ a by
    have := H l [] List.Pairwise.nil
    exact ⟨this.1, fun z => by rw [show putAll l = l.foldl (fun a x => putZ x a) [] from rfl, this.2]; simp⟩
  intro l
  induction l with
  | nil => intro a ha; exact ⟨ha, fun z => by simp⟩
  | cons x t ih =>
    intro a ha
    have h := ih (putZ x a) (rise_putZ x ha)
    refine ⟨h.1, fun z => ?_⟩
    rw [List.foldl_cons, h.2, mem_putZ, List.mem_cons]
    constructor
    · rintro (h | h | h) <;> simp [h]
    · rintro ((h | h) | h) <;> simp [h]

theorem compactTo_spec (d : Array Int) (hd : ∀ i j, i ≤ j → j < d.size → d[i]! ≤ d[j]!) : ∀ m, m ≤ d.size → (Lib.compactUpTo d m).Pairwise (· < ·) ∧ ∀ z, z ∈ Lib.compactUpTo d m ↔ ∃ j, j < m ∧ d[j]! = z
  | 0, _ => by simp [Lib.compactUpTo]
  | m + 1, hm => by
    obtain ⟨h1, h2⟩ := compactTo_spec d hd m (by omega)
    rw [Lib.compactUpTo_succ]
    cases hk : Lib.keeps d m
    · have hk' : m ≠ 0 ∧ d[m]! = d[m - 1]! := by simpa [Lib.keeps] using hk
      simp only [Bool.false_eq_true, if_false, List.append_nil]
      refine ⟨h1, fun z => ?_⟩
      rw [h2]
      constructor
      · rintro ⟨j, hj, e⟩; exact ⟨j, by omega, e⟩
      · rintro ⟨j, hj, e⟩
        by_cases hjm : j = m
        · subst hjm; exact ⟨j - 1, by omega, by rw [← hk'.2]; exact e⟩
        · exact ⟨j, by omega, e⟩
    · have hk' : m = 0 ∨ ¬ d[m]! = d[m - 1]! := by simpa [Lib.keeps] using hk
      simp only [if_true]
      refine ⟨List.pairwise_append.2 ⟨h1, List.pairwise_singleton _ _, fun x hx y hy => ?_⟩, fun z => ?_⟩
      · obtain ⟨j, hj, e⟩ := (h2 x).1 hx
        have hy' : y = d[m]! := by simpa using hy
        subst hy' e
        have a1 := hd j (m - 1) (by omega) (by omega)
        have a2 := hd (m - 1) m (by omega) (by omega)
        rcases hk' with h | h
        · omega
        · omega
      · rw [List.mem_append, h2]
        constructor
        · rintro (⟨j, hj, e⟩ | e)
          · exact ⟨j, by omega, e⟩
          · exact ⟨m, by omega, by simpa using (List.mem_singleton.1 e).symm⟩
        · rintro ⟨j, hj, e⟩
          by_cases hjm : j = m
          · subst hjm; exact .inr (List.mem_singleton.2 e.symm)
          · exact .inl ⟨j, by omega, e⟩
theorem compact_sort_spec (l : List Int) : (Lib.compact (l.mergeSort fun x y => decide (x ≤ y))).Pairwise (· < ·) ∧ ∀ z, z ∈ Lib.compact (l.mergeSort fun x y => decide (x ≤ y)) ↔ z ∈ l := by
  have hs : (l.mergeSort fun x y => decide (x ≤ y)).Pairwise (fun x y => decide (x ≤ y) = true) := List.pairwise_mergeSort (by intro a b c; simp; omega) (by intro a b; simp; omega) l
  obtain ⟨s, hse⟩ : ∃ s, s = l.mergeSort fun x y => decide (x ≤ y) := ⟨_, rfl⟩
  have hp : ∀ z, z ∈ s ↔ z ∈ l := fun z => by rw [hse]; exact (List.mergeSort_perm l _).mem_iff
  rw [← hse] at hs ⊢
  have h := compactTo_spec s.toArray (fun i j hij hj => by
    have hj' : j < s.length := by simpa using hj
    by_cases e : i = j
    · subst e; exact Int.le_refl _
    · have := List.pairwise_iff_getElem.1 hs i j (by omega) hj' (by omega)
      simpa [getElem!_pos, hj', show i < s.length by omega] using this) s.length (by simp)
  refine ⟨h.1, fun z => ?_⟩
  rw [show Lib.compact s = Lib.compactUpTo s.toArray s.length from rfl, h.2, ← hp, List.mem_iff_getElem]
  constructor
  · rintro ⟨j, hj, e⟩; exact ⟨j, hj, by simpa [getElem!_pos, hj] using e⟩
  · rintro ⟨j, hj, e⟩; exact ⟨j, hj, by simpa [getElem!_pos, hj] using e⟩
theorem compact_sort (l : List Int) : Lib.compact (l.mergeSort fun x y => decide (x ≤ y)) = putAll l :=
  rise_ext (compact_sort_spec l).1 (putAll_spec l).1 (fun z => by rw [(compact_sort_spec l).2, (putAll_spec l).2])

end Go.Proofs.Ytndoapgalbljpaa
