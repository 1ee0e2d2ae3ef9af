/-
  YtndoapgalbljpaaPush: appends in a region that draws its order, with where the new row lies; and as one step of a plain region. No program in sight.
-/
import Derived.Test.YtndoapgalbljpaaCommon
import Derived.Maps.AppendAt
namespace Go.Proofs.Ytndoapgalbljpaa
open Go Go.RowKit Go.Sort
set_option linter.unusedVariables false

/-- What an append of a whole list does, and where the new row lies. -/
theorem run_pushAll_at {P : Program} {w : World} (ty t : TypeId) (base : Nat) (e : TypeId) (i : TypeInfo) (z : Value) (sz bytes : Nat) (ht : P.underlying t = some (.slice e)) (hi : P.info? e = some i) (hz : i.zero = some z)
    (hsize : i.size = sz) (hby : i.bytes = bytes) (hzs : z.cells.size = sz) (hsz : 0 < sz) {α : Type} (enc : α → List Value) (he : ∀ x, (enc x).length = sz) (h1 : ∀ x, ∀ u ∈ enc x, u.oneCell' = true)
    (A : Option Addr) (n c : Nat) (l : List α) (B : Option Addr) (m d : Nat) (l' : List α) (h63 : n + m ≤ maxLen) (hbytes : (n + m) * bytes ≤ 140737488355328) (hbase : base ≤ w.heap.size) (hown : Own enc sz w base e A n c l) (hsrc : Rd enc sz w B m d l') :
    ∃ A' c' w', (Builtin.append_ #[t, t] ty #[.slice A n c, .slice B m d]).run P w = .ok (.slice A' (n + m) c') w' ∧ Own enc sz w' base e A' (n + m) c' (l ++ l') ∧ w.grownBy w' (blockOf A) ∧ (∀ k, k < w.heap.size → blockOf A ≠ some k → blockOf A' ≠ some k) := by
  cases B with
  | none =>
    have hd := hsrc.nil0 rfl
    have hm0 : m = 0 := by have := hsrc.cap; omega
    subst hd hm0
    have hl' : l' = [] := List.eq_nil_of_length_eq_zero hsrc.len
    subst hl'
    exact ⟨A, c, w, run_append_owned_none w base t ty e i sz ht hi _ n _ hown.row, by simpa using hown, World.grownBy.refl _ _, fun _ _ h => h⟩
  | some ad =>
    have hnews : ∀ j u, (l'.flatMap enc)[j]? = some u → w.cell? (ad.add j) = some u := by
      intro j u hu
      have hjl : j < l'.length * sz := by
        have := (List.getElem?_eq_some_iff.1 hu).1
        rwa [flat_len he] at this
      have hdiv : j / sz < l'.length := (Nat.div_lt_iff_lt_mul hsz).2 hjl
      obtain ⟨b, off, e1, hc⟩ := hsrc.at_ (Nat.lt_of_le_of_lt (Nat.zero_le _) (Nat.lt_of_lt_of_eq hdiv hsrc.len))
      injection e1 with e1
      subst e1
      have hm' : j % sz < sz := Nat.mod_lt _ hsz
      have hj0 : j = j / sz * sz + j % sz := by rw [Nat.mul_comm]; exact (Nat.div_add_mod j sz).symm
      have hg := flat_get he l' (j / sz) (j % sz) _ (List.getElem?_eq_getElem hdiv) hm'
      rw [← hj0, hu] at hg
      have := hc (j / sz) _ (List.getElem?_eq_getElem hdiv) (j % sz) u hg.symm
      unfold Addr.add
      split
      · rename_i h0; rw [← this]; congr 2; simp [h0]
      · rw [← this]; congr 2; simp only; omega
    have h1' : ∀ u ∈ l'.flatMap enc, u.oneCell' = true := by
      intro u hu
      obtain ⟨x, _, hxu⟩ := List.mem_flatMap.1 hu
      exact h1 x u hxu
    obtain ⟨v', w', hrun, hown', hg, _, hat⟩ := run_append_own_at (P := P) w base t ty e i z sz bytes ht hi hz hsize hby hzs hsz _ n _ hown.row ad m d (l'.flatMap enc) (by rw [flat_len he, hsrc.len]) hnews h1' h63 hbytes hbase
    obtain ⟨A', c', rfl, ho'⟩ := Own.of_row (enc := enc) (l := l ++ l') (by simp [hown.len, hsrc.len]) (by simp) hown'
    rw [ownBlock_slice] at hg
    refine ⟨A', c', w', hrun, ho', hg, fun k hk hne e5 => ?_⟩
    rw [ownBlock_slice, ownBlock_slice] at hat
    rcases hat with h6 | h6
    · exact hne (h6 ▸ e5)
    · rw [h6] at e5
      injection e5 with e5
      omega
theorem step_pushAll_at {P : Program} {w : World} {ops : Array Oper} {o : Oper} {a : Act} {K : Act → World → Prop} {Q : Exit → Act → World → Prop} {E : Prop} (hgd : o.guard = none) (s x : Operand) (t : TypeId)
    (ho : o.op = .call { callee := .builtin .append, args := #[s, x], argTypes := #[t, t] }) (base : Nat) (e : TypeId) (i : TypeInfo) (z : Value) (sz bytes : Nat) (ht : P.underlying t = some (.slice e)) (hi : P.info? e = some i) (hz : i.zero = some z)
    (hsize : i.size = sz) (hby : i.bytes = bytes) (hzs : z.cells.size = sz) (hsz : 0 < sz) {α : Type} (enc : α → List Value) (he : ∀ x, (enc x).length = sz) (h1 : ∀ x, ∀ u ∈ enc x, u.oneCell' = true)
    (A : Option Addr) (n c : Nat) (l : List α) (B : Option Addr) (m d : Nat) (l' : List α) (hs : a.eval s = .slice A n c) (hx : a.eval x = .slice B m d)
    (q : Nat) (hq : n + m = q) (h63 : q ≤ maxLen) (hbytes : q * bytes ≤ 140737488355328) (hbase : base ≤ w.heap.size) (hown : Own enc sz w base e A n c l) (hsrc : Rd enc sz w B m d l')
    (h : ∀ A' c' w', Own enc sz w' base e A' q c' (l ++ l') → w.grownBy w' (blockOf A) → (∀ k, k < w.heap.size → blockOf A ≠ some k → blockOf A' ≠ some k) → K (a.put o.dst (.slice A' q c')) w') :
    if Region.wanted o (yielded ops a.tmps) = true then Oper.wp P o a w K Q else E := by
  subst hq
  have hw : Region.wanted o (yielded ops a.tmps) = true := by simp [Region.wanted, hgd]
  rw [if_pos hw]
  obtain ⟨A', c', w', hrun, ho', hg, hat⟩ := run_pushAll_at (P := P) (w := w) o.type t base e i z sz bytes ht hi hz hsize hby hzs hsz enc he h1 A n c l B m d l' h63 hbytes hbase hown hsrc
  unfold Oper.wp execOp
  simp only [ho, resolve, invoke, builtin, Sem.run_bind, Sem.run_pure, Result.andThen_ok, List.map_toArray, List.map_cons, List.map_nil, hs, hx, hrun]
  exact h A' c' w' ho' hg hat

end Go.Proofs.Ytndoapgalbljpaa
