/-
  YtndoapgalbljpaaInn: one element's row of a list of clauses is replaced by another one; rows sorted and compacted in their place. No program in sight but the types.
-/
import Derived.Test.YtndoapgalbljpaaNest
import Derived.Test.YtndoapgalbljpaaPush
namespace Go.Proofs.Ytndoapgalbljpaa
open Go Go.RowKit Go.Sort
set_option linter.unusedVariables false

theorem set_cases {α : Type} {l : List α} {i q : Nat} {y z : α} (h : (l.set i y)[q]? = some z) : (q = i ∧ z = y ∧ i < l.length) ∨ (q ≠ i ∧ l[q]? = some z) := by
  by_cases e : q = i
  · subst e
    have hl : q < l.length := by have := (List.getElem?_eq_some_iff.1 h).1; simpa using this
    rw [List.getElem?_set_self hl] at h
    injection h with h
    exact .inl ⟨rfl, h.symm, hl⟩
  · rw [List.getElem?_set_ne (fun a => e a.symm)] at h
    exact .inr ⟨e, h⟩
theorem InnC.set_w {w w' : World} {base top : Nat} {hs : List HC} {l : List CL} {i : Nat} {h : HC} {x : CL} {y : List ByteArray} {A' : Option Addr} {n' c' : Nat} (hI : InnC w base top hs l) (hlen : hs.length ≤ l.length) (hh : hs[i]? = some h) (hx : l[i]? = some x) (hg : w.grownBy w' (blockOf h.wA)) (ho : Own stV 1 w' base 9 A' n' c' y)
    (hat : ∀ k, k < w.heap.size → blockOf h.wA ≠ some k → blockOf A' ≠ some k) (ht : top ≤ w'.heap.size) : InnC w' base w'.heap.size (hs.set i { h with wA := A', wn := n', wc := c' }) (l.set i { x with ws := y }) := by
  have me := hI.w_ i h x hh hx
  have old : ∀ (r : Nat) u, hs[r]? = some u → ∀ b, blockOf u.wA = some b → b < w.heap.size := fun r u hu b hbu => by
    have hr : r < l.length := by have := (List.getElem?_eq_some_iff.1 hu).1; omega
    exact ((hI.w_ r u _ hu (List.getElem?_eq_getElem hr)).lt hbu).2
  refine ⟨?_, ?_, ?_, ?_, ?_, ?_⟩
  · intro q k z hk hz
    rcases set_cases hk with ⟨rfl, rfl, _⟩ | ⟨e, hk⟩
    · rcases set_cases hz with ⟨_, rfl, _⟩ | ⟨e, _⟩
      · exact ho
      · exact absurd rfl e
    · rcases set_cases hz with ⟨e2, _⟩ | ⟨_, hz⟩
      · exact absurd e2 e
      · exact (hI.w_ q k z hk hz).grown hg (hI.dw q i k h e hk hh)
  · intro q k z hk hz
    rcases set_cases hk with ⟨rfl, rfl, _⟩ | ⟨e, hk⟩
    · rcases set_cases hz with ⟨_, rfl, _⟩ | ⟨e, _⟩
      · exact (hI.n_ q h x hh hx).grown hg ((hI.n_ q h x hh hx).ne_block me (by decide))
      · exact absurd rfl e
    · rcases set_cases hz with ⟨e2, _⟩ | ⟨_, hz⟩
      · exact absurd e2 e
      · exact (hI.n_ q k z hk hz).grown hg ((hI.n_ q k z hk hz).ne_block me (by decide))
  · intro q r k z hqr hk hz
    rcases set_cases hk with ⟨rfl, rfl, _⟩ | ⟨e, hk2⟩
    · rcases set_cases hz with ⟨e2, _⟩ | ⟨e2, hz⟩
      · exact absurd e2.symm hqr
      · cases hb : blockOf A' with
        | none => exact .inl rfl
        | some b =>
          refine .inr fun e3 => ?_
          have e4 : blockOf z.wA = some b := e3.symm
          refine hat b (old r z hz b e4) (fun e5 => ?_) hb
          rcases hI.dw r q z h e2 hz hh with e6 | e6
          · rw [e6] at e4; cases e4
          · exact e6 (e4.trans e5.symm)
    · rcases set_cases hz with ⟨rfl, rfl, _⟩ | ⟨e2, hz⟩
      · cases hb : blockOf k.wA with
        | none => exact .inl rfl
        | some b =>
          refine .inr fun e3 => ?_
          refine hat b (old q k hk2 b hb) (fun e5 => ?_) e3.symm
          rcases hI.dw q r k h hqr hk2 hh with e6 | e6
          · rw [e6] at hb; cases hb
          · exact e6 (hb.trans e5.symm)
      · exact hI.dw q r k z hqr hk2 hz
  · intro q r k z hqr hk hz
    have hk' : ∃ k0, hs[q]? = some k0 ∧ k0.nA = k.nA := by
      rcases set_cases hk with ⟨rfl, rfl, _⟩ | ⟨e, hk⟩
      · exact ⟨h, hh, rfl⟩
      · exact ⟨k, hk, rfl⟩
    have hz' : ∃ z0, hs[r]? = some z0 ∧ z0.nA = z.nA := by
      rcases set_cases hz with ⟨rfl, rfl, _⟩ | ⟨e, hz⟩
      · exact ⟨h, hh, rfl⟩
      · exact ⟨z, hz, rfl⟩
    obtain ⟨k0, a1, a2⟩ := hk'
    obtain ⟨z0, b1, b2⟩ := hz'
    rw [← a2, ← b2]
    exact hI.dn q r k0 z0 hqr a1 b1
  · intro q k hk b hb
    rcases set_cases hk with ⟨rfl, rfl, _⟩ | ⟨e, hk⟩
    · exact (ho.lt hb).2
    · exact Nat.lt_of_lt_of_le (hI.tw q k hk b hb) ht
  · intro q k hk b hb
    rcases set_cases hk with ⟨rfl, rfl, _⟩ | ⟨e, hk⟩
    · exact Nat.lt_of_lt_of_le (hI.tn q h hh b hb) ht
    · exact Nat.lt_of_lt_of_le (hI.tn q k hk b hb) ht
theorem InnC.set_n {w w' : World} {base top : Nat} {hs : List HC} {l : List CL} {i : Nat} {h : HC} {x : CL} {y : List Int} {A' : Option Addr} {n' c' : Nat} (hI : InnC w base top hs l) (hlen : hs.length ≤ l.length) (hh : hs[i]? = some h) (hx : l[i]? = some x) (hg : w.grownBy w' (blockOf h.nA)) (ho : Own inV 1 w' base 3 A' n' c' y)
    (hat : ∀ k, k < w.heap.size → blockOf h.nA ≠ some k → blockOf A' ≠ some k) (ht : top ≤ w'.heap.size) : InnC w' base w'.heap.size (hs.set i { h with nA := A', nn := n', nc := c' }) (l.set i { x with ns := y }) := by
  have me := hI.n_ i h x hh hx
  have old : ∀ (r : Nat) u, hs[r]? = some u → ∀ b, blockOf u.nA = some b → b < w.heap.size := fun r u hu b hbu => by
    have hr : r < l.length := by have := (List.getElem?_eq_some_iff.1 hu).1; omega
    exact ((hI.n_ r u _ hu (List.getElem?_eq_getElem hr)).lt hbu).2
  refine ⟨?_, ?_, ?_, ?_, ?_, ?_⟩
  · intro q k z hk hz
    rcases set_cases hk with ⟨rfl, rfl, _⟩ | ⟨e, hk⟩
    · rcases set_cases hz with ⟨_, rfl, _⟩ | ⟨e, _⟩
      · exact (hI.w_ q h x hh hx).grown hg ((hI.w_ q h x hh hx).ne_block me (by decide))
      · exact absurd rfl e
    · rcases set_cases hz with ⟨e2, _⟩ | ⟨_, hz⟩
      · exact absurd e2 e
      · exact (hI.w_ q k z hk hz).grown hg ((hI.w_ q k z hk hz).ne_block me (by decide))
  · intro q k z hk hz
    rcases set_cases hk with ⟨rfl, rfl, _⟩ | ⟨e, hk⟩
    · rcases set_cases hz with ⟨_, rfl, _⟩ | ⟨e, _⟩
      · exact ho
      · exact absurd rfl e
    · rcases set_cases hz with ⟨e2, _⟩ | ⟨_, hz⟩
      · exact absurd e2 e
      · exact (hI.n_ q k z hk hz).grown hg (hI.dn q i k h e hk hh)
  · intro q r k z hqr hk hz
    have hk' : ∃ k0, hs[q]? = some k0 ∧ k0.wA = k.wA := by
      rcases set_cases hk with ⟨rfl, rfl, _⟩ | ⟨e, hk⟩
      · exact ⟨h, hh, rfl⟩
      · exact ⟨k, hk, rfl⟩
    have hz' : ∃ z0, hs[r]? = some z0 ∧ z0.wA = z.wA := by
      rcases set_cases hz with ⟨rfl, rfl, _⟩ | ⟨e, hz⟩
      · exact ⟨h, hh, rfl⟩
      · exact ⟨z, hz, rfl⟩
    obtain ⟨k0, a1, a2⟩ := hk'
    obtain ⟨z0, b1, b2⟩ := hz'
    rw [← a2, ← b2]
    exact hI.dw q r k0 z0 hqr a1 b1
  · intro q r k z hqr hk hz
    rcases set_cases hk with ⟨rfl, rfl, _⟩ | ⟨e, hk2⟩
    · rcases set_cases hz with ⟨e2, _⟩ | ⟨e2, hz⟩
      · exact absurd e2.symm hqr
      · cases hb : blockOf A' with
        | none => exact .inl rfl
        | some b =>
          refine .inr fun e3 => ?_
          have e4 : blockOf z.nA = some b := e3.symm
          refine hat b (old r z hz b e4) (fun e5 => ?_) hb
          rcases hI.dn r q z h e2 hz hh with e6 | e6
          · rw [e6] at e4; cases e4
          · exact e6 (e4.trans e5.symm)
    · rcases set_cases hz with ⟨rfl, rfl, _⟩ | ⟨e2, hz⟩
      · cases hb : blockOf k.nA with
        | none => exact .inl rfl
        | some b =>
          refine .inr fun e3 => ?_
          refine hat b (old q k hk2 b hb) (fun e5 => ?_) e3.symm
          rcases hI.dn q r k h hqr hk2 hh with e6 | e6
          · rw [e6] at hb; cases hb
          · exact e6 (hb.trans e5.symm)
      · exact hI.dn q r k z hqr hk2 hz
  · intro q k hk b hb
    rcases set_cases hk with ⟨rfl, rfl, _⟩ | ⟨e, hk⟩
    · exact Nat.lt_of_lt_of_le (hI.tw q h hh b hb) ht
    · exact Nat.lt_of_lt_of_le (hI.tw q k hk b hb) ht
  · intro q k hk b hb
    rcases set_cases hk with ⟨rfl, rfl, _⟩ | ⟨e, hk⟩
    · exact (ho.lt hb).2
    · exact Nat.lt_of_lt_of_le (hI.tn q k hk b hb) ht

end Go.Proofs.Ytndoapgalbljpaa
