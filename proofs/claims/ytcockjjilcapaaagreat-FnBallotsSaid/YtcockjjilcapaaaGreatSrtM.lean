/-
  YtcockjjilcapaaaGreatSrtM: boxes sorted: the plain law: the reference's insertion from the right is the one sorted permutation. No program in sight.
-/
import Derived.Test.YtcockjjilcapaaaGreatBls
import Derived.Test.YtcockjjilcapaaaGreatBalA
import Derived.Shelf.SlSortCmp.NoneTotal
namespace Go.Proofs.YtcockjjilcapaaaGreat
open Go Go.RowKit Go.Sort
set_option linter.unusedVariables false

/-- One ballot stands before another. -/
def baLt (a b : BA) : Bool := decide (a.code < b.code) || (decide (a.code = b.code) && bL a.ch b.ch)
theorem baLt_iff {a b : BA} : baLt a b = true ↔ a.code < b.code ∨ (a.code = b.code ∧ bL a.ch b.ch = true) := by
  unfold baLt
  simp
theorem baLt_irr (a : BA) : baLt a a = false := by
  cases h : baLt a a
  · rfl
  · rcases baLt_iff.1 h with h | ⟨_, h⟩
    · omega
    · rw [bL_irr] at h; cases h
theorem baLt_trans {a b c : BA} (h1 : baLt a b = true) (h2 : baLt b c = true) : baLt a c = true := by
  rw [baLt_iff] at *
  rcases h1 with h1 | ⟨h1, g1⟩ <;> rcases h2 with h2 | ⟨h2, g2⟩
  · exact .inl (by omega)
  · exact .inl (by omega)
  · exact .inl (by omega)
  · exact .inr ⟨by omega, bL_trans g1 g2⟩
theorem baLt_tri {a b : BA} (h1 : baLt a b = false) (h2 : baLt b a = false) : a = b := by
  have n1 : ¬ (a.code < b.code ∨ (a.code = b.code ∧ bL a.ch b.ch = true)) := fun h => by rw [baLt_iff.2 h] at h1; cases h1
  have n2 : ¬ (b.code < a.code ∨ (b.code = a.code ∧ bL b.ch a.ch = true)) := fun h => by rw [baLt_iff.2 h] at h2; cases h2
  have e : a.code = b.code := by omega
  have e2 : a.ch = b.ch := bL_tri (by
    cases h : bL a.ch b.ch
    · rfl
    · exact absurd (.inr ⟨e, h⟩) n1) (by
    cases h : bL b.ch a.ch
    · rfl
    · exact absurd (.inr ⟨e.symm, h⟩) n2)
  cases a; cases b; simp_all
theorem baLt_asym {a b : BA} (h : baLt a b = true) : baLt b a = false := by
  cases g : baLt b a
  · rfl
  · have := baLt_trans h g; rw [baLt_irr] at this; cases this
theorem baLt_ntrans {a b c : BA} (h1 : baLt a b = false) (h2 : baLt b c = false) : baLt a c = false := by
  cases g : baLt a c
  · rfl
  · exfalso
    cases k : baLt b a
    · have := baLt_tri h1 k
      subst this
      rw [g] at h2; cases h2
    · have := baLt_trans k g
      rw [this] at h2; cases h2
theorem baSWO : SWO baLt := ⟨baLt_irr, fun _ _ _ => baLt_trans, fun _ _ _ => baLt_ntrans⟩

/-- The list behind an insertion at p. -/
def insP (l : List BA) (x : BA) (p : Nat) : List BA := l.take p ++ x :: l.drop p
theorem insP_perm (l : List BA) (x : BA) (p : Nat) : (insP l x p).Perm (x :: l) := by
  unfold insP
  have h : (l.take p ++ x :: l.drop p).Perm (x :: (l.take p ++ l.drop p)) := List.perm_middle
  rwa [List.take_append_drop] at h
theorem insP_len (l : List BA) (x : BA) (p : Nat) : (insP l x p).length = l.length + 1 := by rw [(insP_perm l x p).length_eq]; rfl
/-- Sorted: no later one before an earlier one. -/
def Srt (l : List BA) : Prop := l.Pairwise fun a b => baLt b a = false
theorem insP_srt {l : List BA} {x : BA} {p : Nat} (hs : Srt l) (hlo : ∀ a, 0 < p → l[p - 1]? = some a → baLt x a = false) (hhi : ∀ j a, p ≤ j → l[j]? = some a → baLt x a = true) (hp : p ≤ l.length) : Srt (insP l x p) := by
  unfold Srt insP at *
  have hs2 := hs
  rw [← List.take_append_drop p l, List.pairwise_append] at hs2
  obtain ⟨h1, h2, h3⟩ := hs2
  have hdrop : ∀ b ∈ l.drop p, baLt x b = true := fun b hb => by
    obtain ⟨j, hj⟩ := List.mem_iff_getElem?.1 hb
    rw [List.getElem?_drop] at hj
    exact hhi (p + j) b (by omega) hj
  have htake : ∀ a ∈ l.take p, baLt x a = false := fun a ha => by
    obtain ⟨i, hi⟩ := List.mem_iff_getElem?.1 ha
    have hil : i < p := by
      have := (List.getElem?_eq_some_iff.1 hi).1
      rw [List.length_take] at this
      omega
    rw [List.getElem?_take_of_lt hil] at hi
    have hl : p - 1 < l.length := by omega
    have hlast := hlo l[p - 1] (by omega) (List.getElem?_eq_getElem hl)
    by_cases e : i = p - 1
    · subst e
      rw [List.getElem?_eq_getElem hl] at hi
      injection hi with hi
      rw [← hi]; exact hlast
    · have hi' := (List.getElem?_eq_some_iff.1 hi)
      obtain ⟨hil2, e2⟩ := hi'
      have hpw := List.pairwise_iff_getElem.1 hs i (p - 1) hil2 hl (by omega)
      rw [e2] at hpw
      exact baLt_ntrans hlast hpw
  rw [List.pairwise_append]
  refine ⟨h1, ?_, ?_⟩
  · rw [List.pairwise_cons]
    exact ⟨fun b hb => baLt_asym (hdrop b hb), h2⟩
  · intro a ha b hb
    rcases List.mem_cons.1 hb with rfl | hb
    · exact htake a ha
    · exact h3 a ha b hb
/-- The one sorted permutation. -/
def sortB (l : List BA) : List BA := l.mergeSort fun x y => !baLt y x
theorem sortB_perm (l : List BA) : (sortB l).Perm l := List.mergeSort_perm _ _
theorem sortB_len (l : List BA) : (sortB l).length = l.length := (sortB_perm l).length_eq
instance : Inhabited BA := ⟨⟨0, ByteArray.empty⟩⟩
theorem sortB_uniq {l m : List BA} (hp : m.Perm l) (hs : Srt m) : m = sortB l := by
  have hlen := hp.length_eq
  have h := sorted_unique_holds (lt := baLt) baSWO (fun _ _ => baLt_tri) l.toArray m.toArray ⟨by simp [hlen], fun i hi => by
    rcases hi with hi | hi
    · omega
    · have hi' : l.length ≤ i := by simpa using hi
      rw [getElem!_neg _ _ (by simp; omega), getElem!_neg _ _ (by simp; omega)], by
    have e1 : (m.toArray.extract 0 l.toArray.size).toList = m := by simp [← hlen]
    have e2 : (l.toArray.extract 0 l.toArray.size).toList = l := by simp
    rw [e1, e2]; exact hp⟩ (fun i j _ hij hj => by
    have hj0 : j < l.length := by simpa using hj
    have hj' : j < m.length := by omega
    have := List.pairwise_iff_getElem.1 hs i j (by omega) hj' hij
    rw [getElem!_pos _ _ (by simpa using hj'), getElem!_pos _ _ (by simp; omega)]
    simpa using this)
  simpa [sortB] using h

end Go.Proofs.YtcockjjilcapaaaGreat
