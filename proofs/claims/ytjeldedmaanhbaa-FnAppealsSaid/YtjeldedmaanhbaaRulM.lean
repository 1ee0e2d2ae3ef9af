/-
  YtjeldedmaanhbaaRulM: rulings: what the laws say of a point that is raised, ruled on, appealed and decided: plain mathematics. No program in sight.
-/
import Derived.Test.YtjeldedmaanhbaaRulE
namespace Go.Proofs.Ytjeldedmaanhbaa
open Go Go.RowKit Go.Sort
set_option linter.unusedVariables false

/-- Points to which one can be added. -/
structure PBase (l : List PT) : Prop where
  pts : ptsB l = true
  ord : ordB l = true
  len : l.length < 6
theorem pts_snoc {l : List PT} {p : PT} (h : PBase l) (hp : ptOK p = true) : ptsB (l ++ [p]) = true := by
  have hl := h.len
  rw [pts_upto]
  · simp; omega
  · intro i q hq
    have hi := (List.getElem?_eq_some_iff.1 hq).1
    simp at hi
    by_cases hk : i < l.length
    · rw [List.getElem?_append_left hk] at hq
      have h1 := pts_at h.pts hq
      unfold okAt at h1 ⊢
      rw [Bool.and_eq_true] at h1
      rw [h1.1, Bool.true_and]
      by_cases h2 : i + 1 < l.length
      · have h3 := h1.2
        rw [decide_eq_true h2, Bool.and_true] at h3
        rw [Bool.not_eq_true'] at h3
        rw [h3]; rfl
      · have e : lastP l = q := by
          have := last_get (l := l) (n := l.length) rfl (by omega)
          rw [show l.length - 1 = i by omega, hq] at this
          injection this with this
          exact this.symm
        have h3 := h.ord
        unfold ordB at h3
        rw [decide_eq_false (by omega), Bool.false_or, e, Bool.not_eq_true'] at h3
        rw [h3]; rfl
    · obtain rfl : i = l.length := by omega
      simp at hq
      subst hq
      unfold okAt
      rw [hp, decide_eq_false (by simp)]
      simp
theorem lastP_snoc (l : List PT) (p : PT) : lastP (l ++ [p]) = p := by simp [lastP, List.getD]
theorem withL_snoc (l : List PT) (p y : PT) : withL (l ++ [p]) y = l ++ [y] := by
  rw [withL_app (n := l.length + 1) (by simp) (by omega)]
  simp
theorem ptAt_snoc {l : List PT} {p : PT} {i : Int} (hi : i = (l.length : Int)) : ptAt (l ++ [p]) i = p := by subst hi; simp [ptAt, List.getD]
theorem lastB_snoc {l : List PT} {p : PT} (h : PBase l) (hp : ptOK p = true) (s : Int) : lastB (l ++ [p]) s = decide (p.st = s) := by
  unfold lastB
  rw [pts_snoc h hp, lastP_snoc]
  simp
theorem outG_snoc {l : List PT} {p : PT} (h : PBase l) (hp : ptOK p = true) {i : Int} (hi : i = (l.length : Int)) : outG (l ++ [p]) i = !opB p := by
  unfold outG
  rw [pts_snoc h hp, ptAt_snoc hi, decide_eq_true (by rw [List.length_append, List.length_singleton]; omega)]
  simp
theorem outV_snoc {l : List PT} {p : PT} (h : PBase l) (hp : ptOK p = true) {i : Int} (hi : i = (l.length : Int)) : outV (l ++ [p]) i = (!opB p && (p.ta != revB p)) := by
  unfold outV
  rw [outG_snoc h hp hi, ptAt_snoc hi]
theorem ord_snoc (l : List PT) (p : PT) : ordB (l ++ [p]) = !opB p := by
  unfold ordB
  rw [lastP_snoc, decide_eq_false (by simp)]
  rfl
theorem rai_base {l : List PT} {x : Int} (h : raiG l x = true) : PBase l ∧ 1 ≤ x ∧ x ≤ 99 := by
  unfold raiG mB at h
  simp only [Bool.and_eq_true, decide_eq_true_eq] at h
  exact ⟨⟨h.1.1.1, h.1.2, h.2⟩, h.1.1.2.1, h.1.1.2.2⟩
structure Chain (l : List PT) (x i : Int) : Prop where
  a1 : outG (raiL l x) i = false
  a2 : outV (raiL l x) i = false
  b1 : lastB (raiL l x) 1 = true
  c1 : outG (rulL (raiL l x) true) i = true
  c2 : outV (rulL (raiL l x) true) i = true
  d1 : appG (rulL (raiL l x) true) x = false
  d2 : appG (rulL (raiL l x) true) (x % 99 + 1) = true
  e1 : ptsB (appL (rulL (raiL l x) true) (x % 99 + 1)) = true
  e2 : ordB (appL (rulL (raiL l x) true) (x % 99 + 1)) = false
  f1 : decG (appL (rulL (raiL l x) true) (x % 99 + 1)) 1 2 0 = true
  g1 : outG (decL (appL (rulL (raiL l x) true) (x % 99 + 1)) 1 2 0) i = true
  g2 : outV (decL (appL (rulL (raiL l x) true) (x % 99 + 1)) 1 2 0) i = false
theorem chain_of {l : List PT} {x i : Int} (h : raiG l x = true) (hi : i = (l.length : Int)) : Chain l x i := by
  obtain ⟨hB, hx1, hx2⟩ := rai_base h
  have hm : 1 ≤ x % 99 + 1 ∧ x % 99 + 1 ≤ 99 := by omega
  have hne : x ≠ x % 99 + 1 := by omega
  have r1 : raiL l x = l ++ [newP x] := raiL_yes h
  have k1 : ptOK (newP x) = true := by simp [ptOK, PtOK, newP]; omega
  have b1 : lastB (l ++ [newP x]) 1 = true := by rw [lastB_snoc hB k1]; simp [newP]
  have r2 : rulL (l ++ [newP x]) true = l ++ [⟨x, 2, true, 0, 0, 0, 0⟩] := by
    rw [rulL_yes b1, withL_snoc]
    unfold rulP
    rw [lastP_snoc]
    rfl
  have k2 : ptOK ⟨x, 2, true, 0, 0, 0, 0⟩ = true := by simp [ptOK, PtOK]; omega
  have d2 : appG (l ++ [⟨x, 2, true, 0, 0, 0, 0⟩]) (x % 99 + 1) = true := by
    unfold appG mB
    rw [lastB_snoc hB k2, lastP_snoc, decide_eq_true hm]
    simp [hne]
  have r3 : appL (l ++ [⟨x, 2, true, 0, 0, 0, 0⟩]) (x % 99 + 1) = l ++ [⟨x, 3, true, x % 99 + 1, 0, 0, 0⟩] := by
    rw [appL_yes d2, withL_snoc]
    unfold appP
    rw [lastP_snoc]
  have k3 : ptOK ⟨x, 3, true, x % 99 + 1, 0, 0, 0⟩ = true := by simp [ptOK, PtOK]; omega
  have f1 : decG (l ++ [⟨x, 3, true, x % 99 + 1, 0, 0, 0⟩]) 1 2 0 = true := by
    unfold decG
    rw [lastB_snoc hB k3]
    simp [talB]
  have r4 : decL (l ++ [⟨x, 3, true, x % 99 + 1, 0, 0, 0⟩]) 1 2 0 = l ++ [⟨x, 4, true, x % 99 + 1, 1, 2, 0⟩] := by
    rw [decL_yes f1, withL_snoc]
    unfold decP
    rw [lastP_snoc]
  have k4 : ptOK ⟨x, 4, true, x % 99 + 1, 1, 2, 0⟩ = true := by simp [ptOK, PtOK]; omega
  refine ⟨?_, ?_, ?_, ?_, ?_, ?_, ?_, ?_, ?_, ?_, ?_, ?_⟩
  · rw [r1, outG_snoc hB k1 hi]; simp [opB, newP]
  · rw [r1, outV_snoc hB k1 hi]; simp [opB, newP]
  · rw [r1]; exact b1
  · rw [r1, r2, outG_snoc hB k2 hi]; simp [opB]
  · rw [r1, r2, outV_snoc hB k2 hi]; simp [opB, revB]
  · rw [r1, r2]; unfold appG; rw [lastP_snoc]; simp
  · rw [r1, r2]; exact d2
  · rw [r1, r2, r3]; exact pts_snoc hB k3
  · rw [r1, r2, r3, ord_snoc]; simp [opB]
  · rw [r1, r2, r3]; exact f1
  · rw [r1, r2, r3, r4, outG_snoc hB k4 hi]; simp [opB]
  · rw [r1, r2, r3, r4, outV_snoc hB k4 hi]; simp [opB, revB]
/-! ### an appeal that is decided -/
theorem dec_split {l : List PT} (h : lastB l 3 = true) : ∃ l', PBase l' ∧ l = l' ++ [lastP l] ∧ ptOK (lastP l) = true ∧ (lastP l).st = 3 := by
  obtain ⟨hp, h0, hs⟩ := lastB_yes h
  have hl := pts_len hp
  have hg := last_get (l := l) (n := l.length) rfl h0
  have hdl : l = l.take (l.length - 1) ++ [lastP l] := by
    have e1 : l.take (l.length - 1 + 1) = l.take (l.length - 1) ++ [lastP l] := by rw [List.take_add_one, hg]; rfl
    rw [show l.length - 1 + 1 = l.length by omega, List.take_length] at e1
    exact e1
  have hlt : (l.take (l.length - 1)).length = l.length - 1 := by simp
  have hok := pts_at hp hg
  unfold okAt at hok
  rw [Bool.and_eq_true] at hok
  have hget : ∀ i q, (l.take (l.length - 1))[i]? = some q → l[i]? = some q ∧ i + 1 < l.length := fun i q hq => by
    have hi := (List.getElem?_eq_some_iff.1 hq).1
    rw [hlt] at hi
    rw [List.getElem?_take_of_lt hi] at hq
    exact ⟨hq, by omega⟩
  have hcl : ∀ i q, (l.take (l.length - 1))[i]? = some q → ptOK q = true ∧ opB q = false := fun i q hq => by
    obtain ⟨h1, h2⟩ := hget i q hq
    have h3 := pts_at hp h1
    unfold okAt at h3
    rw [decide_eq_true h2, Bool.and_true, Bool.and_eq_true, Bool.not_eq_true'] at h3
    exact h3
  refine ⟨l.take (l.length - 1), ⟨?_, ?_, by omega⟩, hdl, hok.1, hs⟩
  · rw [pts_upto]
    · simp; omega
    · intro i q hq
      unfold okAt
      rw [(hcl i q hq).1, (hcl i q hq).2]; rfl
  · unfold ordB
    by_cases h9 : (l.take (l.length - 1)).length = 0
    · rw [decide_eq_true h9]; rfl
    · have := last_get (l := l.take (l.length - 1)) rfl (by omega)
      rw [(hcl _ _ this).2]; simp
structure Dec (l : List PT) (y n a i : Int) : Prop where
  a1 : ptsB (decL l y n a) = true
  b1 : decide (i ∈ revL (decL l y n a)) = decide (y < n)
  c1 : outG (decL l y n a) i = true
  c2 : outV (decL l y n a) i = ((ptAt l i).ta != decide (y < n))
theorem dec_of {l : List PT} {y n a i : Int} (h : decG l y n a = true) (hi : i = (l.length : Int) - 1) : Dec l y n a i := by
  unfold decG at h
  rw [Bool.and_eq_true] at h
  have ht := talT h.2
  obtain ⟨l', hB, hl, hok, hst⟩ := dec_split h.1
  have hG : decG l y n a = true := by unfold decG; rw [h.1, h.2]; rfl
  generalize lastP l = p at hl hok hst
  subst hl
  have hr : decL (l' ++ [p]) y n a = l' ++ [⟨p.ra, 4, p.ta, p.ap, y, n, a⟩] := by
    rw [decL_yes hG, withL_snoc]
    unfold decP
    rw [lastP_snoc]
  have hpk : PtOK p := of_decide_eq_true hok
  have k4 : ptOK ⟨p.ra, 4, p.ta, p.ap, y, n, a⟩ = true := by
    refine decide_eq_true ?_
    obtain ⟨h1, _, h3⟩ := hpk
    refine ⟨h1, .inl rfl, .inr (.inr ⟨.inr rfl, ?_⟩)⟩
    rcases h3 with h3 | h3 | h3
    · rw [hst] at h3; omega
    · rw [hst] at h3; omega
    · exact ⟨h3.2.1, h3.2.2.1, ht.1, ht.2.1, ht.2.2⟩
  have hi' : i = (l'.length : Int) := by rw [hi]; simp
  have hp4 := pts_snoc hB k4
  refine ⟨?_, ?_, ?_, ?_⟩
  · rw [hr]; exact hp4
  · rw [hr, revL_yes hp4, hi']
    have := revTo_mem (l := l' ++ [⟨p.ra, 4, p.ta, p.ap, y, n, a⟩]) (k := (l' ++ [(⟨p.ra, 4, p.ta, p.ap, y, n, a⟩ : PT)]).length) (i := l'.length) (by simp)
    rw [ptAt_snoc rfl] at this
    have e : ∀ (P : Prop) [Decidable P] (b : Bool), (P ↔ b = true) → decide P = b := fun P _ b h => by rw [Bool.eq_iff_iff, decide_eq_true_iff]; exact h
    rw [e _ _ this]
    simp [revB]
  · rw [hr, outG_snoc hB k4 hi']; simp [opB]
  · rw [hr, outV_snoc hB k4 hi', ptAt_snoc hi']; simp [opB, revB]

end Go.Proofs.Ytjeldedmaanhbaa
