/-
  YtcockjjilcapaaaGreatDoorLeadM: the leading one of counted texts: two ways to find it. No program in sight.
-/
import Derived.Test.YtcockjjilcapaaaGreatDoorCnt
import Derived.Lib.Slices
namespace Go.Proofs.YtcockjjilcapaaaGreatDoor
open Go Go.RowKit Go.Sort
set_option linter.unusedVariables false

/-- How many have a number. -/
def nOf (m : Int) (ps : List PR) : Nat := (ps.filter (fun p => decide (p.2 = m))).length
structure LS where
  best : ByteArray
  most : Int
  tied : Bool
/-- The reference's step. -/
def ldStep (s : LS) (p : PR) : LS := if s.most < p.2 then ⟨p.1, p.2, false⟩ else if p.2 = s.most then ⟨s.best, s.most, true⟩ else s
def ldTo (ps : List PR) (k : Nat) : LS := (ps.take k).foldl ldStep ⟨⟨#[]⟩, 0, true⟩
theorem ldTo_next {ps : List PR} {k : Nat} {p : PR} (h : ps[k]? = some p) : ldTo ps (k + 1) = ldStep (ldTo ps k) p := by
  unfold ldTo; rw [List.take_add_one, h]; simp
structure LdInv (ps : List PR) (s : LS) : Prop where
  nil : ps = [] → s = ⟨⟨#[]⟩, 0, true⟩
  has : ps ≠ [] → ∃ p ∈ ps, p.2 = s.most
  le : ∀ p ∈ ps, p.2 ≤ s.most
  tie : ps ≠ [] → (s.tied = true ↔ 1 < nOf s.most ps)
  one : s.tied = false → (s.best, s.most) ∈ ps
  pos : 0 ≤ s.most
theorem nOf_snoc (m : Int) (ps : List PR) (p : PR) : nOf m (ps ++ [p]) = nOf m ps + if p.2 = m then 1 else 0 := by
  unfold nOf
  rw [List.filter_append, List.length_append]
  by_cases h : p.2 = m <;> simp [h]
theorem ldInv_step {ps : List PR} {s : LS} (h : LdInv ps s) {p : PR} (hp : 0 < p.2) : LdInv (ps ++ [p]) (ldStep s p) := by
  unfold ldStep
  by_cases h1 : s.most < p.2
  · rw [if_pos h1]
    have hz : nOf p.2 ps = 0 := by
      unfold nOf
      rw [List.length_eq_zero_iff, List.filter_eq_nil_iff]
      intro q hq
      have := h.le q hq
      simp; omega
    refine ⟨fun e => by simp at e, fun _ => ⟨p, by simp, rfl⟩, fun q hq => ?_, fun _ => ?_, fun _ => by simp, Int.le_of_lt hp⟩
    · rcases List.mem_append.1 hq with hq | hq
      · have := h.le q hq; simp only; omega
      · simp at hq; rw [hq]; exact Int.le_refl _
    · rw [nOf_snoc, hz]; simp
  · rw [if_neg h1]
    have hne : ps ≠ [] := fun e => by
      have := h.nil e
      rw [this] at h1
      exact h1 hp
    by_cases h2 : p.2 = s.most
    · rw [if_pos h2]
      refine ⟨fun e => by simp at e, fun _ => ⟨p, by simp, h2⟩, fun q hq => ?_, fun _ => ?_, fun e => by simp at e, h.pos⟩
      · rcases List.mem_append.1 hq with hq | hq
        · exact h.le q hq
        · simp at hq; rw [hq, h2]; exact Int.le_refl _
      · rw [nOf_snoc, if_pos h2]
        obtain ⟨q, hq, e⟩ := h.has hne
        have : 0 < nOf s.most ps := by
          unfold nOf
          exact List.length_pos_of_mem (List.mem_filter.2 ⟨hq, by simp [e]⟩)
        simp; omega
    · rw [if_neg h2]
      refine ⟨fun e => by simp at e, fun _ => ?_, fun q hq => ?_, fun _ => ?_, fun e => List.mem_append_left _ (h.one e), h.pos⟩
      · obtain ⟨q, hq, e⟩ := h.has hne
        exact ⟨q, by simp [hq], e⟩
      · rcases List.mem_append.1 hq with hq | hq
        · exact h.le q hq
        · simp at hq; rw [hq]; omega
      · rw [nOf_snoc, if_neg h2, Nat.add_zero]; exact h.tie hne
theorem ldInv {ps : List PR} (hp : ∀ p ∈ ps, 0 < p.2) : ∀ k, k ≤ ps.length → LdInv (ps.take k) (ldTo ps k)
  | 0, _ => ⟨fun _ => by simp [ldTo], fun h => absurd (by simp) h, fun p h => by simp at h, fun h => absurd (by simp) h, fun e => by simp [ldTo] at e, by simp [ldTo]⟩
  | k + 1, hk => by
    have h := ldInv hp k (by omega)
    have hx : ps[k]? = some ps[k] := List.getElem?_eq_getElem (by omega)
    rw [ldTo_next hx, List.take_add_one, hx]
    exact ldInv_step h (hp _ (List.getElem_mem _))

end Go.Proofs.YtcockjjilcapaaaGreatDoor
