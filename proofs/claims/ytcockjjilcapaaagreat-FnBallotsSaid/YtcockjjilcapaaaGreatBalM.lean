/-
  YtcockjjilcapaaaGreatBalM: ballots: LeadingChoice, the program's side. (Printed by wip/gen/balm.py.)
-/
import Derived.Test.YtcockjjilcapaaaGreatBalL
namespace Go.Proofs.YtcockjjilcapaaaGreat
open Go Go.RowKit Go.Sort
set_option linter.unusedVariables false

theorem fold_max : ∀ (l : List Int) (a : Int), a ≤ l.foldl max a ∧ (∀ x ∈ l, x ≤ l.foldl max a) ∧ (l.foldl max a = a ∨ l.foldl max a ∈ l)
  | [], a => ⟨Int.le_refl _, fun x h => by simp at h, .inl rfl⟩
  | y :: t, a => by
    obtain ⟨h1, h2, h3⟩ := fold_max t (max a y)
    rw [List.foldl_cons]
    refine ⟨by omega, fun x hx => ?_, ?_⟩
    · rcases List.mem_cons.1 hx with e | e
      · rw [e]; omega
      · exact h2 x e
    · rcases h3 with h3 | h3
      · rcases Int.le_total a y with h | h
        · rw [Int.max_eq_right h] at h3 ⊢; exact .inr (by rw [h3]; simp)
        · rw [Int.max_eq_left h] at h3 ⊢; exact .inl h3
      · exact .inr (List.mem_cons_of_mem _ h3)
theorem max_le {cs : List Int} : ∀ x ∈ cs, x ≤ Lib.maxOf cs := (fold_max cs _).2.1
theorem max_mem {cs : List Int} (h : cs ≠ []) : Lib.maxOf cs ∈ cs := by
  cases cs with
  | nil => exact absurd rfl h
  | cons y t =>
    rcases (fold_max (y :: t) y).2.2 with e | e
    · rw [show Lib.maxOf (y :: t) = (y :: t).foldl max y from rfl, e]; simp
    · exact e
theorem wins_at {cs : List Int} {g : Int} (h : g ∈ wins cs) : ∃ i : Nat, g = (i : Int) ∧ cs[i]? = some (Lib.maxOf cs) := by
  obtain ⟨i, x, _, hx, hf⟩ := fm_mem h
  unfold winF at hf
  split at hf
  · rename_i e
    injection hf with hf
    exact ⟨i, hf.symm, by rw [hx, e]⟩
  · cases hf
theorem fm_win_len (cs : List Int) : ∀ k, (fm (winF cs) cs k).length = ((cs.take k).filter (fun x => decide (x = Lib.maxOf cs))).length
  | 0 => rfl
  | k + 1 => by
    have h := fm_win_len cs k
    cases hx : cs[k]? with
    | none => unfold fm at *; rw [List.range_succ, List.filterMap_append, List.take_add_one, hx]; simp [hx, h]
    | some x =>
      rw [List.take_add_one, hx, List.filter_append, List.length_append, ← h]
      by_cases e : x = Lib.maxOf cs
      · rw [fm_yes hx (show winF cs k x = some (k : Int) by unfold winF; rw [if_pos e])]; simp [e]
      · rw [fm_no hx (show winF cs k x = none by unfold winF; rw [if_neg e])]; simp [e]
theorem wins_n (ps : List PR) : (wins (ps.map Prod.snd)).length = nOf (Lib.maxOf (ps.map Prod.snd)) ps := by
  unfold wins
  rw [fm_win_len, List.take_of_length_le (Nat.le_refl _), List.filter_map, List.length_map]
  rfl
structure Lead (ps : List PR) (s : LS) : Prop where
  most : ps ≠ [] → Lib.maxOf (ps.map Prod.snd) = s.most
  tie : ps ≠ [] → (s.tied = true ↔ 1 < (wins (ps.map Prod.snd)).length)
  ge : ps ≠ [] → 1 ≤ (wins (ps.map Prod.snd)).length
  one : ps ≠ [] → s.tied = false → ∀ i : Nat, (i : Int) ∈ wins (ps.map Prod.snd) → ps[i]? = some (s.best, s.most)
theorem lead_of {ps : List PR} (hp : ∀ p ∈ ps, 0 < p.2) : Lead ps (ldTo ps ps.length) := by
  have I := ldInv hp ps.length (Nat.le_refl _)
  rw [List.take_of_length_le (Nat.le_refl _)] at I
  have hm : ps ≠ [] → Lib.maxOf (ps.map Prod.snd) = (ldTo ps ps.length).most := fun hne => by
    obtain ⟨p, hp1, e⟩ := I.has hne
    have h1 := max_le (cs := ps.map Prod.snd) p.2 (List.mem_map_of_mem hp1)
    have h2 := max_mem (cs := ps.map Prod.snd) (by simpa using hne)
    obtain ⟨q, hq, e2⟩ := List.mem_map.1 h2
    have h3 := I.le q hq
    omega
  have hw : ps ≠ [] → (wins (ps.map Prod.snd)).length = nOf (ldTo ps ps.length).most ps := fun hne => by rw [wins_n, hm hne]
  have hge : ps ≠ [] → 1 ≤ (wins (ps.map Prod.snd)).length := fun hne => by
    rw [hw hne]
    obtain ⟨p, hp1, e⟩ := I.has hne
    unfold nOf
    exact List.length_pos_of_mem (List.mem_filter.2 ⟨hp1, by simp [e]⟩)
  refine ⟨hm, fun hne => by rw [hw hne]; exact I.tie hne, hge, fun hne ht i hi => ?_⟩
  obtain ⟨i', e, hx⟩ := wins_at hi
  obtain rfl : i = i' := by omega
  rw [hm hne, List.getElem?_map] at hx
  cases hpi : ps[i]? with
  | none => rw [hpi] at hx; cases hx
  | some p =>
    rw [hpi] at hx
    have hx' : p.2 = (ldTo ps ps.length).most := by simpa using hx
    have h1 := I.one ht
    have hn1 : nOf (ldTo ps ps.length).most ps = 1 := by
      have h2 : ¬ 1 < nOf (ldTo ps ps.length).most ps := fun h => by have := (I.tie hne).2 h; rw [ht] at this; cases this
      have h3 := hge hne
      rw [hw hne] at h3
      omega
    unfold nOf at hn1
    have a1 : p ∈ ps.filter (fun p => decide (p.2 = (ldTo ps ps.length).most)) := List.mem_filter.2 ⟨List.mem_of_getElem? hpi, by simp [hx']⟩
    have a2 : ((ldTo ps ps.length).best, (ldTo ps ps.length).most) ∈ ps.filter (fun p => decide (p.2 = (ldTo ps ps.length).most)) := List.mem_filter.2 ⟨h1, by simp⟩
    obtain ⟨z, hz⟩ := List.length_eq_one_iff.1 hn1
    rw [hz] at a1 a2
    simp at a1 a2
    rw [a1, ← a2]

end Go.Proofs.YtcockjjilcapaaaGreat

