/-
  YtmmogpbbehgkiaaView: a slice of the call's own that need not begin at its block's first cell; what is appended to it. No program in sight.
-/
import Derived.Test.YtmmogpbbehgkiaaCommon
import Derived.ArgAppend
namespace Go.Proofs.Ytmmogpbbehgkiaa
open Go Go.RowKit Go.Sort
set_option linter.unusedVariables false

/-- '.slice A n c' reads as l and lies in a block from base on, with its spare places. -/
structure View {α : Type} (enc : α → List Value) (sz : Nat) (w : World) (base : Nat) (A : Option Addr) (n c : Nat) (l : List α) : Prop where
  len : l.length = n
  cap : n ≤ c
  max : c ≤ maxLen
  nil0 : A = none → c = 0
  at_ : ∀ a, A = some a → ∃ off, a = ⟨a.block, off, none⟩ ∧ base ≤ a.block ∧ a.block < w.heap.size ∧ (∀ j u, (l.flatMap enc)[j]? = some u → w.cell? ⟨a.block, off + j, none⟩ = some u) ∧
    ∀ j, j < (c - n) * sz → (w.cell? ⟨a.block, off + n * sz + j, none⟩).isSome = true ∧ w.frozen? ⟨a.block, off + n * sz + j, none⟩ = false
section
variable {α : Type} {enc : α → List Value} {sz : Nat} {w w' : World} {base : Nat} {A : Option Addr} {n c : Nat} {l : List α}

theorem View.lt (h : View enc sz w base A n c l) {k : Nat} (hk : blockOf A = some k) : base ≤ k ∧ k < w.heap.size := by
  cases A with
  | none => cases hk
  | some a =>
    obtain ⟨off, _, h1, h2, _⟩ := h.at_ a rfl
    have : a.block = k := by simpa [blockOf] using hk
    subst this
    exact ⟨h1, h2⟩
theorem View.grown {row : Option Nat} (h : View enc sz w base A n c l) (hg : w.grownBy w' row) (hne : ∀ k, blockOf A = some k → row ≠ some k) : View enc sz w' base A n c l := by
  refine ⟨h.len, h.cap, h.max, h.nil0, fun a ha => ?_⟩
  obtain ⟨off, e, h1, h2, h3, h4⟩ := h.at_ a ha
  have hb : w'.heap[a.block]? = w.heap[a.block]? := hg.block _ h2 (fun e => hne a.block (by rw [ha]; rfl) e.symm)
  refine ⟨off, e, h1, Nat.lt_of_lt_of_le h2 hg.size, fun j u hu => ?_, fun j hj => ?_⟩
  · rw [World.cell?_of_block (a := ⟨a.block, off + j, none⟩) hb]; exact h3 j u hu
  · rw [World.cell?_of_block (a := ⟨a.block, off + n * sz + j, none⟩) hb, World.frozen?_of_block (a := ⟨a.block, off + n * sz + j, none⟩) hb]; exact h4 j hj
theorem View.below (h : View enc sz w base A n c l) (hb : Below w.heap.size w w') : View enc sz w' base A n c l := h.grown (grown_of_below hb none) (fun k _ e => by cases e)
theorem View.cur {g : Nat} (h : View enc sz w base A n c l) (hg : w.grownBy w' (some g)) (hb : g < base) : View enc sz w' base A n c l :=
  h.grown hg (fun k hk e => by injection e with e; have := (h.lt hk).1; omega)
theorem View.base_le {b : Nat} (h : View enc sz w base A n c l) (hb : b ≤ base) : View enc sz w b A n c l :=
  ⟨h.len, h.cap, h.max, h.nil0, fun a ha => by obtain ⟨off, e, h1, h2, h3⟩ := h.at_ a ha; exact ⟨off, e, Nat.le_trans hb h1, h2, h3⟩⟩
theorem flat_at (he : ∀ x, (enc x).length = sz) : ∀ (l : List α) (i : Nat) (x : α) (j : Nat) (u : Value), l[i]? = some x → (enc x)[j]? = some u → (l.flatMap enc)[i * sz + j]? = some u
  | y :: r, 0, x, j, u, hx, hu => by
    simp only [List.getElem?_cons_zero, Option.some.injEq] at hx
    subst hx
    rw [Nat.zero_mul, Nat.zero_add, List.flatMap_cons, List.getElem?_append_left (List.getElem?_eq_some_iff.1 hu).1]
    exact hu
  | y :: r, i + 1, x, j, u, hx, hu => by
    rw [List.getElem?_cons_succ] at hx
    rw [List.flatMap_cons, List.getElem?_append_right (by rw [he, Nat.add_mul]; omega), he, Nat.add_mul]
    have := flat_at he r i x j u hx hu
    rw [← this]
    congr 1
    omega
theorem flat_size (he : ∀ x, (enc x).length = sz) : ∀ l : List α, (l.flatMap enc).length = l.length * sz
  | [] => by simp
  | y :: r => by rw [List.flatMap_cons, List.length_append, he, flat_size he r, List.length_cons, Nat.add_mul]; omega
theorem View.rd (h : View enc sz w base A n c l) (he : ∀ x, (enc x).length = sz) : Rd enc sz w A n c l := by
  refine ⟨h.len, h.cap, h.max, h.nil0, fun h0 => ?_⟩
  cases A with
  | none => have := h.nil0 rfl; have := h.cap; omega
  | some a =>
    obtain ⟨off, e, h1, h2, h3, h4⟩ := h.at_ a rfl
    refine ⟨a.block, off, by rw [← e], fun i x hx j u hu => ?_⟩
    rw [Nat.add_assoc]
    exact h3 _ _ (flat_at he l i x j u hx hu)
theorem Own.view {e : TypeId} (h : Own enc sz w base e A n c l) (he : ∀ x, (enc x).length = sz) : View enc sz w base A n c l := by
  have hr := h.rd he
  refine ⟨h.len, hr.cap, hr.max, hr.nil0, fun a ha => ?_⟩
  subst ha
  rcases h.row.2 with ⟨h1, _⟩ | ⟨g, cap, cur, hv, hb, hg, hn, hc, hs, ht⟩
  · cases h1
  · simp only [Value.slice.injEq, Option.some.injEq] at hv
    obtain ⟨rfl, -, rfl⟩ := hv
    refine ⟨0, rfl, hb, heap_lt' hg, fun j u hu => ?_, fun j hj => ?_⟩
    · have hj : j < n * sz := by
        have := (List.getElem?_eq_some_iff.1 hu).1
        rw [flat_size he, h.len] at this
        exact this
      rw [Nat.zero_add, h.row.cellAt j hj]
      exact hu
    · rw [Nat.zero_add]
      have hjs : n * sz + j < cur.size := by
        rw [hs]
        have : n * sz + (c - n) * sz = c * sz := by rw [← Nat.add_mul]; congr 1; omega
        omega
      refine ⟨?_, by simp [World.frozen?, hg]⟩
      rw [cell_of_row w g _ cur e _ hg, Array.getElem?_eq_getElem hjs]
      rfl
where
  heap_lt' {w : World} {k : Nat} {o : Obj} (h : w.heap[k]? = some o) : k < w.heap.size := by
    rcases Nat.lt_or_ge k w.heap.size with hlt | hge
    · exact hlt
    · rw [Array.getElem?_eq_none hge] at h; cases h
/-- The part from the second element on. -/
theorem View.tail1 {b off : Nat} (h : View enc sz w base (some ⟨b, off, none⟩) n c l) (he : ∀ x, (enc x).length = sz) (h1 : 1 ≤ n) : View enc sz w base (some ⟨b, off + sz, none⟩) (n - 1) (c - 1) (l.drop 1) := by
  have hc := h.cap
  refine ⟨by rw [List.length_drop, h.len], by omega, by have := h.max; omega, fun e => (by cases e), fun a ha => ?_⟩
  injection ha with ha
  subst ha
  obtain ⟨off', e, h2, h3, h4, h5⟩ := h.at_ _ rfl
  injection e with _ e
  subst e
  refine ⟨off + sz, rfl, h2, h3, fun j u hu => ?_, fun j hj => ?_⟩
  · have hl := h.len
    cases l with
    | nil => simp at hl; omega
    | cons y r =>
      have := h4 (sz + j) u (by rw [List.flatMap_cons, List.getElem?_append_right (by rw [he]; omega), he, Nat.add_sub_cancel_left]; exact hu)
      rw [Nat.add_assoc]; exact this
  · have e2 : off + sz + (n - 1) * sz + j = off + n * sz + j := by
      have : n * sz = (n - 1) * sz + sz := by rw [← Nat.succ_mul]; congr 1; omega
      omega
    rw [e2]
    exact h5 j (by rw [show c - n = c - 1 - (n - 1) from by omega]; exact hj)
end
theorem grownBy_setCells (b : Nat) : ∀ (vs : List Value) (o : Nat) (w : World), w.grownBy (w.setCells b o vs) (some b)
  | [], _, w => World.grownBy.refl _ _
  | v :: r, o, w => by
    have h : w.grownBy (w.setCell ⟨b, o, none⟩ v) (some b) := ⟨rfl, rfl, rfl, by simp, fun i hi hne => Below.heap_setCell _ _ _ _ (fun e => hne (by rw [e]))⟩
    exact grown_trans h (grownBy_setCells b r (o + 1) _)
/-- 'out = append(out, y)' where out may begin inside its block. -/
theorem wpList_push_view {P : Program} {w0 : World} {ops : Array Oper} {rest : List Oper} {o : Oper} {a : Act} {Q : Exit → Act → World → Prop} (hgd : o.guard = none) (s x : Operand) (t : TypeId)
    (ho : o.op = .call { callee := .builtin .append, args := #[s, x], argTypes := #[t, t] }) (base : Nat) (e : TypeId) (i : TypeInfo) (z : Value) (sz bytes : Nat) (ht : P.underlying t = some (.slice e)) (hi : P.info? e = some i) (hz : i.zero = some z)
    (hsize : i.size = sz) (hby : i.bytes = bytes) (hzs : z.cells.size = sz) (hsz : 0 < sz) {α : Type} (enc : α → List Value) (he : ∀ x, (enc x).length = sz) (h1 : ∀ x, ∀ u ∈ enc x, u.oneCell' = true)
    (A : Option Addr) (n c : Nat) (l : List α) (hs : a.eval s = .slice A n c) (hv : View enc sz w0 base A n c l) (y : α) (cs : Array Value) (hcs : cs.toList = enc y) (g : Nat) (hx : a.eval x = .slice (some ⟨g, 0, none⟩) 1 1) (hgs : g = w0.heap.size)
    (h63 : n + 1 ≤ maxLen) (hbytes : (n + 1) * bytes ≤ 140737488355328) (hbase : base ≤ w0.heap.size)
    (h : ∀ A' c' w', View enc sz w' base A' (n + 1) c' (l ++ [y]) → w0.grownBy w' (blockOf A) → wpList P ops Q rest (a.put o.dst (.slice A' (n + 1) c')) w') :
    wpList P ops Q (o :: rest) a (w0.alloc (.cells cs e)) := by
  subst hgs
  have hnews : ∀ j u, (enc y)[j]? = some u → (w0.alloc (.cells cs e)).cell? ((⟨w0.heap.size, 0, none⟩ : Addr).add j) = some u := by
    intro j u hu
    have e1 : (w0.alloc (.cells cs e)).cell? ⟨w0.heap.size, j, none⟩ = cs[j]? := cell_of_row _ _ _ cs e (0, 0) (heap_alloc_new w0 _)
    rw [Addr.add_lit, Nat.zero_add, e1, ← hu, ← hcs, Array.getElem?_toList]
  have hva := hv.below (below_alloc (w := w0) (.cells cs e))
  have hlen : (l.flatMap enc).length = n * sz := by rw [flat_size he, hv.len]
  have grow : ∀ v' w', w'.ownsRow (w0.alloc (.cells cs e)).heap.size e sz v' (n + 1) (l.flatMap enc ++ enc y) → (w0.alloc (.cells cs e)).grownBy w' none → wpList P ops Q rest (a.put o.dst v') w' := by
    intro v' w' hr hg
    obtain ⟨A', c', rfl, ho'⟩ := Own.of_row (enc := enc) (l := l ++ [y]) (by simp [hv.len]) (by simp) hr
    refine h A' c' w' ((ho'.view he).base_le (Nat.le_trans hbase (by simp))) ?_
    have := grown_trans (World.grownBy_alloc w0 (.cells cs e) none) hg
    exact ⟨this.os, this.tape, this.output, this.size, fun k hk _ => this.block k hk (by simp)⟩
  cases A with
  | none =>
    have hc0 := hv.nil0 rfl
    have hn0 : n = 0 := by have := hv.cap; omega
    subst hc0 hn0
    refine wpList_append_grows _ hgd s x t ho e i z sz bytes ht hi hz hsize hby hzs hsz none 0 0 (l.flatMap enc) hs (fun _ => ⟨rfl, rfl⟩) hlen (fun b hb => by cases hb) ⟨w0.heap.size, 0, none⟩ 1 1 (enc y) hx (by rw [he]; omega) hnews (h1 y) (by omega) h63 hbytes grow
  | some ad =>
    obtain ⟨off, ea, g1, g2, g3, g4⟩ := hva.at_ ad rfl
    obtain ⟨b, hb⟩ : ∃ b, b = ad.block := ⟨_, rfl⟩
    rw [← hb] at ea g1 g2 g3 g4
    subst ea
    refine wpList_append_arg _ hgd s x t ho e i z sz bytes ht hi hz hsize hby hzs hsz b off n c (l.flatMap enc) hs hlen g3 ⟨w0.heap.size, 0, none⟩ 1 1 (enc y) hx (by rw [he]; omega) hnews (h1 y) (fun hr j hj => g4 j (by
      have : 1 * sz ≤ (c - n) * sz := Nat.mul_le_mul_right _ (by omega)
      rw [he] at hj
      omega)) h63 hbytes (fun hr => ?_) (fun _ => grow)
    have hsome : ∀ j, j < (enc y).length → ((w0.alloc (.cells cs e)).cell? ⟨b, off + n * sz + j, none⟩).isSome = true := fun j hj => (g4 j (by
      have : 1 * sz ≤ (c - n) * sz := Nat.mul_le_mul_right _ (by omega)
      rw [he] at hj
      omega)).1
    refine h (some ⟨b, off, none⟩) c _ ⟨by simp [hv.len], hr, hv.max, fun e => (by cases e), fun a' ha' => ?_⟩ ?_
    · injection ha' with ha'
      subst ha'
      have hgr := grownBy_setCells b (enc y) (off + n * sz) (w0.alloc (.cells cs e))
      refine ⟨off, rfl, g1, Nat.lt_of_lt_of_le g2 hgr.size, fun j u hu => ?_, fun j hj => ?_⟩
      · rw [List.flatMap_append, List.flatMap_singleton] at hu
        by_cases hj : j < (l.flatMap enc).length
        · rw [List.getElem?_append_left hj] at hu
          rw [World.cell?_setCells_out b _ _ _ _ (fun _ _ => .inl (by show off + j < off + n * sz; omega))]
          exact g3 j u hu
        · rw [List.getElem?_append_right (by omega), hlen] at hu
          have hj2 := (List.getElem?_eq_some_iff.1 hu)
          have := World.cell?_setCells_in b (enc y) (off + n * sz) _ hsome (j - n * sz) hj2.1
          rw [show off + n * sz + (j - n * sz) = off + j from by omega] at this
          rw [this, ← hj2.2]
      · have e3 : off + (n + 1) * sz + j = off + n * sz + (sz + j) := by rw [Nat.add_mul]; omega
        rw [e3]
        have e4 : sz + (c - (n + 1)) * sz = (c - n) * sz := by
          have : c - n = (c - (n + 1)) + 1 := by omega
          rw [this, Nat.add_mul]; omega
        have := g4 (sz + j) (by omega)
        rw [World.cell?_setCells_out b _ _ _ _ (fun _ _ => .inr (by show off + n * sz + (enc y).length ≤ off + n * sz + (sz + j); rw [he]; omega)), World.frozen?_setCells]
        exact this
    · exact grown_trans (World.grownBy_alloc w0 _ _) (grownBy_setCells b _ _ _)

end Go.Proofs.Ytmmogpbbehgkiaa
