/-
  YtndoapgalbljpaaTail: the tail and the head of a slice, and the address of a tail whatever the capacity. No program in sight.
-/
import Derived.Test.YtndoapgalbljpaaCommon
import Derived.Maps.AppendAt
namespace Go.Proofs.Ytndoapgalbljpaa
open Go Go.RowKit Go.Sort

theorem Rd.take' {α : Type} {enc : α → List Value} {sz : Nat} {w : World} {A : Option Addr} {n c : Nat} {l : List α} (h : Rd enc sz w A n c l) {k : Nat} (hk : k ≤ n) : Rd enc sz w A k c (l.take k) := by
  refine ⟨by rw [List.length_take, h.len]; omega, by have := h.cap; omega, h.max, h.nil0, fun h0 => ?_⟩
  obtain ⟨b, off, e, hc⟩ := h.at_ (by omega)
  refine ⟨b, off, e, fun i x hx j u hu => hc i x ?_ j u hu⟩
  rw [List.getElem?_take] at hx
  split at hx
  · exact hx
  · cases hx
/-- The tail's address. -/
def tailA (A : Option Addr) (c k : Nat) (s : Nat) : Option Addr := if c = k then A else Option.map (fun x => x.add s) A
/-- The part from k on, whatever the capacity. -/
theorem Rd.tail {α : Type} {enc : α → List Value} {sz : Nat} {w : World} {A : Option Addr} {n c : Nat} {l : List α} (h : Rd enc sz w A n c l) {k : Nat} (hk : k ≤ n) : Rd enc sz w (tailA A c k (k * sz)) (n - k) (c - k) (l.drop k) := by
  have h1 := h.cap
  have h2 := h.max
  refine ⟨by rw [List.length_drop, h.len], by omega, by omega, (fun e => ?_), fun h0 => ?_⟩
  · unfold tailA at e
    split at e
    · have := h.nil0 e; omega
    · cases A with
      | none => have := h.nil0 rfl; omega
      | some a => simp at e
  · obtain ⟨b, o, e, hc⟩ := h.at_ (by omega)
    subst e
    have ha : (⟨b, o, none⟩ : Addr).add (k * sz) = ⟨b, o + k * sz, none⟩ := by
      unfold Addr.add
      split
      · rename_i h5; rw [h5]; rfl
      · rfl
    refine ⟨b, o + k * sz, ?_, fun i x hx j u hu => ?_⟩
    · unfold tailA
      rw [if_neg (by omega)]
      simp [ha]
    · rw [List.getElem?_drop] at hx
      have := hc (k + i) x hx j u hu
      rw [Nat.add_mul] at this
      rw [← this]
      congr 2
      omega

/-- 'out = append(out, y)' with where the new row lies: in the old block, or in a new one. -/
theorem wpList_push_at {P : Program} {w0 : World} {ops : Array Oper} {rest : List Oper} {o : Oper} {a : Act} {Q : Exit → Act → World → Prop} (hgd : o.guard = none) (s x : Operand) (t : TypeId)
    (ho : o.op = .call { callee := .builtin .append, args := #[s, x], argTypes := #[t, t] }) (base : Nat) (e : TypeId) (i : TypeInfo) (z : Value) (sz bytes : Nat) (ht : P.underlying t = some (.slice e)) (hi : P.info? e = some i) (hz : i.zero = some z)
    (hsize : i.size = sz) (hby : i.bytes = bytes) (hzs : z.cells.size = sz) (hsz : 0 < sz) {α : Type} (enc : α → List Value) (he : ∀ x, (enc x).length = sz) (h1 : ∀ x, ∀ u ∈ enc x, u.oneCell' = true)
    (A : Option Addr) (n c : Nat) (l : List α) (hs : a.eval s = .slice A n c) (hown : Own enc sz w0 base e A n c l) (y : α) (cs : Array Value) (hcs : cs.toList = enc y) (g : Nat) (hx : a.eval x = .slice (some ⟨g, 0, none⟩) 1 1) (hgs : g = w0.heap.size)
    (h63 : n + 1 ≤ maxLen) (hbytes : (n + 1) * bytes ≤ 140737488355328) (hbase : base ≤ w0.heap.size)
    (h : ∀ A' c' w', Own enc sz w' base e A' (n + 1) c' (l ++ [y]) → w0.grownBy w' (blockOf A) → (∀ k, k < w0.heap.size → blockOf A ≠ some k → blockOf A' ≠ some k) → wpList P ops Q rest (a.put o.dst (.slice A' (n + 1) c')) w') :
    wpList P ops Q (o :: rest) a (w0.alloc (.cells cs e)) := by
  subst hgs
  refine wpList_append_own_at _ hgd s x t ho base e i z sz bytes ht hi hz hsize hby hzs hsz _ n (l.flatMap enc) hs (hown.row.alloc _) ⟨w0.heap.size, 0, none⟩ 1 1 (enc y) hx (by rw [he]; omega) ?_ (h1 y) h63 hbytes (Nat.le_trans hbase (by simp)) ?_
  · intro j u hu
    have hj : j < cs.size := by
      have := (List.getElem?_eq_some_iff.1 hu).1
      rw [← hcs] at this
      simpa using this
    have e1 : (w0.alloc (.cells cs e)).cell? ⟨w0.heap.size, j, none⟩ = cs[j]? := cell_of_row _ _ _ cs e (0, 0) (heap_alloc_new w0 _)
    have e2 : (⟨w0.heap.size, 0, none⟩ : Addr).add j = ⟨w0.heap.size, j, none⟩ := by
      unfold Addr.add
      split
      · rename_i h0; rw [h0]
      · simp
    rw [e2, e1, ← hu, ← hcs, Array.getElem?_toList]
  · intro v' w' hown' hg _ hat
    obtain ⟨A', c', rfl, ho'⟩ := Own.of_row (enc := enc) (l := l ++ [y]) (by simp [hown.len]) (by simp) hown'
    refine h A' c' w' ho' ?_ ?_
    · rw [ownBlock_slice] at hg
      exact grown_trans (World.grownBy_alloc w0 _ _) hg
    · intro k hk hne e5
      rw [ownBlock_slice, ownBlock_slice] at hat
      rcases hat with h6 | h6
      · exact hne (h6 ▸ e5)
      · rw [h6] at e5
        injection e5 with e5
        simp at e5
        omega

end Go.Proofs.Ytndoapgalbljpaa
