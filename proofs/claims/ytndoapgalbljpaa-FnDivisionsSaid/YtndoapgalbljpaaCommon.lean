/-
  YtndoapgalbljpaaCommon: words for memory, used by all texts of this seat: a slice that reads as a list of Lean values, an owned slice likewise, and small lemmas. No program in sight.
-/
import Derived.WalkKit
import Derived.Lib.Hide
import Derived.Lib.QuietBelow
import Derived.BigQuiet
import Derived.Laws.AppendOwnNone
namespace Go.Proofs.Ytndoapgalbljpaa
open Go Go.RowKit Go.Sort

/-- A slice value '.slice A n c' whose cells read the list l, each element sz cells wide, laid out by enc. -/
structure Rd {α : Type} (enc : α → List Value) (sz : Nat) (w : World) (A : Option Addr) (n c : Nat) (l : List α) : Prop where
  len : l.length = n
  cap : n ≤ c
  max : c ≤ maxLen
  nil0 : A = none → c = 0
  at_ : 0 < n → ∃ b off, A = some ⟨b, off, none⟩ ∧ ∀ i x, l[i]? = some x → ∀ j u, (enc x)[j]? = some u → w.cell? ⟨b, off + i * sz + j, none⟩ = some u

section
variable {α : Type} {enc : α → List Value} {sz : Nat} {w w' : World} {A : Option Addr} {n c : Nat} {l : List α}

theorem lt_of_cell {w : World} {a : Addr} {v : Value} (h : w.cell? a = some v) : a.block < w.heap.size := by
  rcases Nat.lt_or_ge a.block w.heap.size with hlt | hge
  · exact hlt
  · unfold World.cell? at h
    rw [Array.getElem?_eq_none hge] at h
    cases h

theorem cell_below {a : Addr} {v : Value} (hb : Below w.heap.size w w') (h : w.cell? a = some v) : w'.cell? a = some v := by
  rw [hb.cell (lt_of_cell h)]; exact h

theorem Rd.nil : Rd enc sz w none 0 0 [] := ⟨rfl, Nat.le_refl _, by simp [maxLen], fun _ => rfl, fun h => absurd h (by omega)⟩

theorem Rd.below (h : Rd enc sz w A n c l) (hb : Below w.heap.size w w') : Rd enc sz w' A n c l :=
  ⟨h.len, h.cap, h.max, h.nil0, fun hn => by
    obtain ⟨b, off, e, hc⟩ := h.at_ hn
    exact ⟨b, off, e, fun i x hx j u hu => cell_below hb (hc i x hx j u hu)⟩⟩

theorem Rd.le (h : Rd enc sz w A n c l) : n ≤ 9223372036854775807 := by
  have h1 := h.cap
  have h2 := h.max
  unfold maxLen at h2
  omega
end

/-! ### lists laid out flat -/
section
variable {α : Type} {enc : α → List Value} {sz : Nat}

theorem flat_len (he : ∀ x, (enc x).length = sz) (l : List α) : (l.flatMap enc).length = l.length * sz := by
  induction l with
  | nil => simp
  | cons x l ih => simp [List.flatMap_cons, he, ih, Nat.add_mul]; omega

theorem flat_get (he : ∀ x, (enc x).length = sz) (l : List α) (i j : Nat) (x : α) (hx : l[i]? = some x) (hj : j < sz) : (l.flatMap enc)[i * sz + j]? = (enc x)[j]? := by
  induction l generalizing i with
  | nil => simp at hx
  | cons y l ih =>
    rw [List.flatMap_cons]
    cases i with
    | zero =>
      simp at hx
      subst hx
      rw [Nat.zero_mul, Nat.zero_add, List.getElem?_append_left (by rw [he]; exact hj)]
    | succ i =>
      have e : (i + 1) * sz + j = (enc y).length + (i * sz + j) := by rw [he, Nat.add_mul]; omega
      rw [e, List.getElem?_append_right (Nat.le_add_right _ _), Nat.add_sub_cancel_left]
      exact ih i (by simpa using hx)

theorem flat_set (he : ∀ x, (enc x).length = sz) (l : List α) (i j : Nat) (x y : α) (u : Value) (hx : l[i]? = some x) (hj : j < sz) (hy : enc y = (enc x).set j u) :
    (l.flatMap enc).set (i * sz + j) u = (l.set i y).flatMap enc := by
  induction l generalizing i with
  | nil => simp at hx
  | cons z l ih =>
    cases i with
    | zero =>
      simp at hx
      subst hx
      rw [Nat.zero_mul, Nat.zero_add, List.flatMap_cons, List.set_append_left _ _ (by rw [he]; exact hj), List.set_cons_zero, List.flatMap_cons, hy]
    | succ i =>
      have e : (i + 1) * sz + j = (enc z).length + (i * sz + j) := by rw [he, Nat.add_mul]; omega
      rw [List.flatMap_cons, e, List.set_append_right _ _ (Nat.le_add_right _ _), Nat.add_sub_cancel_left, ih i (by simpa using hx), List.set_cons_succ, List.flatMap_cons]

theorem made_flat {z : Array Value} (he : ∀ x, (enc x).length = sz) (hs : 0 < sz) (x : α) (hz : z.toList = enc x) (n : Nat) : (madeCells z (n * sz)).toList = (List.replicate n x).flatMap enc := by
  have hzs : z.size = sz := by rw [← he x, ← hz]; simp
  apply List.ext_getElem?
  intro k
  have hk0 : k = k / sz * sz + k % sz := by rw [Nat.mul_comm]; exact (Nat.div_add_mod k sz).symm
  have hm : k % sz < sz := Nat.mod_lt _ hs
  by_cases hk : k < n * sz
  · have hd : k / sz < n := (Nat.div_lt_iff_lt_mul hs).2 hk
    have h1 : ((List.replicate n x).flatMap enc)[k]? = (enc x)[k % sz]? := by
      have := flat_get he (List.replicate n x) (k / sz) (k % sz) x (by simp [hd]) hm
      rw [← hk0] at this
      exact this
    rw [h1, ← hz]
    simp only [madeCells, Array.toList_map, Array.toList_range, List.getElem?_map, hzs]
    rw [List.getElem?_eq_getElem (by simpa using hk)]
    simp only [List.getElem_range, Option.map_some]
    rw [Array.getElem?_toList, getElem!_pos z (k % sz) (by omega), Array.getElem?_eq_getElem (by omega)]
  · rw [List.getElem?_eq_none (by simp [madeCells]; omega), List.getElem?_eq_none (by rw [flat_len he]; simp; omega)]

theorem take_set_replicate (l : List α) (z : α) (k n : Nat) (x : α) (hx : l[k]? = some x) (hk : k < n) : (l.take k ++ List.replicate (n - k) z).set k x = l.take (k + 1) ++ List.replicate (n - (k + 1)) z := by
  have hl : k < l.length := (List.getElem?_eq_some_iff.1 hx).1
  have ht : (l.take k).length = k := by simp; omega
  obtain ⟨m, hm⟩ : ∃ m, n - k = m + 1 := ⟨n - k - 1, by omega⟩
  rw [List.set_append_right _ _ (by omega), ht, Nat.sub_self, hm, List.replicate_succ, List.set_cons_zero, show n - (k + 1) = m from by omega, List.take_add_one, hx]
  simp
end

theorem take_rep_get {α : Type} (l : List α) (z : α) (k n : Nat) (hk : k < n) (hl : n ≤ l.length) : (l.take k ++ List.replicate (n - k) z)[k]? = some z := by
  have ht : (l.take k).length = k := by simp; omega
  rw [List.getElem?_append_right (by omega), ht, Nat.sub_self]
  exact List.getElem?_replicate_of_lt (by omega)

/-! ### a slice that the calls made themselves -/
/-- '.slice A n c' owns a row of its own among the blocks from base on, whose cells read the list l. -/
structure Own {α : Type} (enc : α → List Value) (sz : Nat) (w : World) (base : Nat) (e : TypeId) (A : Option Addr) (n c : Nat) (l : List α) : Prop where
  len : l.length = n
  row : w.ownsRow base e sz (.slice A n c) n (l.flatMap enc)

/-- The one block that a slice value lies in. -/
def blockOf (A : Option Addr) : Option Nat := A.map (·.block)

section
variable {α : Type} {enc : α → List Value} {sz : Nat} {w w' : World} {base : Nat} {e : TypeId} {A : Option Addr} {n c : Nat} {l : List α}

theorem ownBlock_slice (A : Option Addr) (n c : Nat) : (Value.slice A n c).ownBlock = blockOf A := by cases A <;> rfl

theorem Own.nil (w : World) (base : Nat) (e : TypeId) : Own enc sz w base e none 0 0 [] := ⟨rfl, World.ownsRow_nil _ _ _ _⟩

theorem grown_of_below (h : Below w.heap.size w w') (row : Option Nat) : w.grownBy w' row := ⟨h.os, h.tape, h.output, h.size, fun i hi _ => h.block i hi⟩
theorem below_of_grown {B : Nat} {row : Option Nat} (h : w.grownBy w' row) (hB : B ≤ w.heap.size) (hr : ∀ k, row = some k → B ≤ k) : Below B w w' := (Below.refl B w).grown h hB hr

theorem Own.grown {row : Option Nat} (h : Own enc sz w base e A n c l) (hg : w.grownBy w' row) (hne : blockOf A = none ∨ blockOf A ≠ row) : Own enc sz w' base e A n c l :=
  ⟨h.len, h.row.kept hg (by rw [ownBlock_slice]; exact hne)⟩

theorem Own.below (h : Own enc sz w base e A n c l) (hb : Below w.heap.size w w') : Own enc sz w' base e A n c l := by
  refine ⟨h.len, h.row.kept (grown_of_below hb none) ?_⟩
  cases A with
  | none => exact .inl rfl
  | some a => exact .inr (by simp [Value.ownBlock])

theorem Own.lt (h : Own enc sz w base e A n c l) {k : Nat} (hk : blockOf A = some k) : base ≤ k ∧ k < w.heap.size := h.row.lt k (by rw [ownBlock_slice]; exact hk)

theorem Own.base_le (h : Own enc sz w base e A n c l) {b : Nat} (hb : b ≤ base) : Own enc sz w b e A n c l :=
  ⟨h.len, h.row.1, h.row.2.elim Or.inl (fun ⟨g, cap, cur, hv, hg, r⟩ => Or.inr ⟨g, cap, cur, hv, Nat.le_trans hb hg, r⟩)⟩

/-- A row made later lies in another block. -/
theorem Own.apart {β : Type} {enc' : β → List Value} {sz' base' : Nat} {e' : TypeId} {A' : Option Addr} {n' c' : Nat} {l' : List β} {w0 w2 : World} (h : Own enc sz w0 base e A n c l) (h' : Own enc' sz' w2 base' e' A' n' c' l') (hb : w0.heap.size ≤ base') :
    blockOf A' = none ∨ blockOf A' ≠ blockOf A := by
  cases hA' : blockOf A' with
  | none => exact .inl rfl
  | some k =>
    refine .inr fun he => ?_
    have h1 := (h'.lt hA').1
    have h2 := (h.lt he.symm).2
    omega
theorem Own.apart' {β : Type} {enc' : β → List Value} {sz' base' : Nat} {e' : TypeId} {A' : Option Addr} {n' c' : Nat} {l' : List β} {w0 w2 : World} (h : Own enc sz w0 base e A n c l) (h' : Own enc' sz' w2 base' e' A' n' c' l') (hb : w0.heap.size ≤ base') :
    blockOf A = none ∨ blockOf A ≠ blockOf A' := by
  cases hA : blockOf A with
  | none => exact .inl rfl
  | some k =>
    refine .inr fun he => ?_
    have h1 := (h'.lt he.symm).1
    have h2 := (h.lt hA).2
    omega

theorem Own.form (h : Own enc sz w base e A n c l) (hn : 0 < n) : ∃ g, A = some ⟨g, 0, none⟩ := by
  rcases h.row.2 with ⟨_, h0⟩ | ⟨g, cap, _, hv, _⟩
  · omega
  · injection hv with h1; exact ⟨g, h1⟩

theorem Own.rd (h : Own enc sz w base e A n c l) (he : ∀ x, (enc x).length = sz) : Rd enc sz w A n c l := by
  have hcap : n ≤ c ∧ c ≤ maxLen ∧ (A = none → c = 0) := by
    rcases h.row.2 with ⟨h1, h0⟩ | ⟨g, cap, _, hv, _, _, h2, h3, _⟩
    · injection h1 with _ _ h3; subst h3; exact ⟨by omega, by simp [maxLen], fun _ => rfl⟩
    · injection hv with h5 _ h4; subst h4; subst h5; exact ⟨h2, h3, fun h => by cases h⟩
  refine ⟨h.len, hcap.1, hcap.2.1, hcap.2.2, fun hn => ?_⟩
  obtain ⟨g, rfl⟩ := h.form hn
  refine ⟨g, 0, rfl, fun i x hx j u hu => ?_⟩
  have hj : j < sz := by rw [← he x]; exact (List.getElem?_eq_some_iff.1 hu).1
  have hc := h.row.cells (g := g) rfl (i * sz + j) u (by rw [flat_get he l i j x hx hj]; exact hu)
  unfold Addr.add at hc
  split at hc
  · rename_i h0; simpa [h0, Nat.add_assoc] using hc
  · simpa [Nat.add_assoc] using hc

theorem Own.cell {b : Nat} (h : Own enc sz w base e (some ⟨b, 0, none⟩) n c l) (he : ∀ x, (enc x).length = sz) {i j : Nat} {x : α} {u : Value} (hx : l[i]? = some x) (hu : (enc x)[j]? = some u) : w.cell? ⟨b, i * sz + j, none⟩ = some u := by
  have hi : i < l.length := (List.getElem?_eq_some_iff.1 hx).1
  obtain ⟨b', off, e1, hc⟩ := (h.rd he).at_ (by have := h.len; omega)
  injection e1 with e1
  injection e1 with e2 e3
  subst e2
  have := hc i x hx j u hu
  rw [← e3] at this
  simpa using this

theorem Own.frozen {b : Nat} (h : Own enc sz w base e (some ⟨b, 0, none⟩) n c l) (j : Nat) : w.frozen? ⟨b, j, none⟩ = false := h.row.frozenAt j

theorem Own.store {b : Nat} (h : Own enc sz w base e (some ⟨b, 0, none⟩) n c l) (he : ∀ x, (enc x).length = sz) {i j : Nat} {x : α} (hx : l[i]? = some x) (hj : j < sz) (y : α) (u : Value) (hy : enc y = (enc x).set j u) :
    Own enc sz (w.setCell ⟨b, i * sz + j, none⟩ u) base e (some ⟨b, 0, none⟩) n c (l.set i y) ∧ w.grownBy (w.setCell ⟨b, i * sz + j, none⟩ u) (some b) := by
  obtain ⟨h1, h2⟩ := h.row.stored (i * sz + j) u
  rw [flat_set he l i j x y u hx hj hy] at h1
  exact ⟨⟨by simpa using h.len, h1⟩, h2⟩
end

theorem below_trans {w w1 w2 : World} (h : Below w.heap.size w w1) (k : Below w1.heap.size w1 w2) : Below w.heap.size w w2 := h.trans (k.mono h.size)

theorem below_grow {w w1 : World} (h : Below w.heap.size w w1) (d : Nat) (os : Array Obj) : Below w.heap.size w (grow (redrawn w1 d) os) := below_trans h (below_regrown w1 d os)

theorem below_alloc {w : World} (o : Obj) : Below w.heap.size w (w.alloc o) := (Below.refl _ _).alloc (Nat.le_refl _) o
theorem below_alloc2 {w : World} (o o' : Obj) : Below w.heap.size w ((w.alloc o).alloc o') := below_trans (below_alloc o) (below_alloc o')
theorem below_alloc3 {w : World} (o o' o'' : Obj) : Below w.heap.size w (((w.alloc o).alloc o').alloc o'') := below_trans (below_alloc2 o o') (below_alloc o'')
theorem below_setCell {B : Nat} {w w1 : World} (h : Below B w w1) (g j : Nat) (u : Value) (hg : B ≤ g) : Below B w (w1.setCell ⟨g, j, none⟩ u) := h.setCell hg u

/-! ### several cells of one element stored -/
/-- us stored at the cells o, o + 1, .. of block g. -/
def putCells (w : World) (g o : Nat) : List Value → World
  | [] => w
  | u :: us => putCells (w.setCell ⟨g, o, none⟩ u) g (o + 1) us
def putList (xs : List Value) (o : Nat) : List Value → List Value
  | [] => xs
  | u :: us => putList (xs.set o u) (o + 1) us

theorem putList_get (us xs : List Value) (o k : Nat) : (putList xs o us)[k]? = if o ≤ k ∧ k < o + us.length ∧ k < xs.length then us[k - o]? else xs[k]? := by
  induction us generalizing xs o with
  | nil => simp [putList]; intro h1 h2; omega
  | cons u us ih =>
    rw [putList, ih]
    by_cases h0 : k = o
    · subst h0
      by_cases hk : k < xs.length
      · rw [if_neg (by omega), if_pos ⟨Nat.le_refl _, by simp, hk⟩]; simp [hk]
      · rw [if_neg (by omega), if_neg (by omega), List.getElem?_eq_none (by simpa using hk), List.getElem?_eq_none (by simpa using hk)]
    · by_cases h1 : o + 1 ≤ k ∧ k < o + 1 + us.length ∧ k < (xs.set o u).length
      · rw [if_pos h1, if_pos ⟨by omega, by simp; omega, by simpa using h1.2.2⟩, show k - o = (k - (o + 1)) + 1 from by omega, List.getElem?_cons_succ]
      · rw [if_neg h1, if_neg (by simp at h1 ⊢; intro a b; have := h1 (by omega) (by omega); omega), List.getElem?_set_ne (by omega)]

theorem putList_flat {α : Type} {enc : α → List Value} {sz : Nat} (he : ∀ x, (enc x).length = sz) (l : List α) (i : Nat) (y : α) (hi : i < l.length) : putList (l.flatMap enc) (i * sz) (enc y) = (l.set i y).flatMap enc := by
  have h1 : (i + 1) * sz ≤ l.length * sz := Nat.mul_le_mul_right _ hi
  rw [Nat.add_mul, Nat.one_mul] at h1
  rcases Nat.eq_zero_or_pos sz with h0 | hs
  · subst h0
    have e : ∀ l : List α, l.flatMap enc = [] := fun l => List.eq_nil_of_length_eq_zero (by rw [flat_len he]; omega)
    have e2 : enc y = [] := List.eq_nil_of_length_eq_zero (he y)
    rw [e, e2, e]; rfl
  apply List.ext_getElem?
  intro k
  rw [putList_get, he, flat_len he]
  have hk0 : k = k / sz * sz + k % sz := by rw [Nat.mul_comm]; exact (Nat.div_add_mod k sz).symm
  have hm : k % sz < sz := Nat.mod_lt _ hs
  by_cases hk : k / sz < l.length
  · have hs1 := flat_get he (l.set i y) (k / sz) (k % sz)
    have hl1 := flat_get he l (k / sz) (k % sz) l[k / sz] (List.getElem?_eq_getElem hk) hm
    rw [← hk0] at hs1 hl1
    by_cases hik : i = k / sz
    · rw [hs1 y (by rw [hik]; simp [hk]) hm]
      have hks : k < l.length * sz := by
        rw [hk0]
        have h2 : (k / sz + 1) * sz ≤ l.length * sz := Nat.mul_le_mul_right _ hk
        rw [Nat.add_mul, Nat.one_mul] at h2
        omega
      have ek : i * sz = k / sz * sz := by rw [hik]
      rw [if_pos ⟨by omega, by omega, hks⟩]
      congr 1
      omega
    · rw [hs1 l[k / sz] (by rw [List.getElem?_set_ne hik]; exact List.getElem?_eq_getElem hk) hm, if_neg, hl1]
      rintro ⟨h2, h3, _⟩
      apply hik
      have h4 : i ≤ k / sz := (Nat.le_div_iff_mul_le hs).2 h2
      have h5 : k / sz < i + 1 := (Nat.div_lt_iff_lt_mul hs).2 (by rw [Nat.add_mul]; omega)
      omega
  · have hks : l.length * sz ≤ k := by
      have := (Nat.le_div_iff_mul_le hs).1 (Nat.not_lt.1 hk)
      exact this
    rw [if_neg (by omega), List.getElem?_eq_none (by rw [flat_len he]; exact hks), List.getElem?_eq_none (by rw [flat_len he]; simpa using hks)]

theorem row_puts {base e sz g n c : Nat} (us : List Value) : ∀ (w : World) (xs : List Value) (o : Nat), w.ownsRow base e sz (.slice (some ⟨g, 0, none⟩) n c) n xs →
    (putCells w g o us).ownsRow base e sz (.slice (some ⟨g, 0, none⟩) n c) n (putList xs o us) ∧ w.grownBy (putCells w g o us) (some g) := by
  induction us with
  | nil => intro w xs o h; exact ⟨h, World.grownBy.refl w _⟩
  | cons u us ih =>
    intro w xs o h
    obtain ⟨h1, h2⟩ := h.stored o u
    obtain ⟨h3, h4⟩ := ih _ _ (o + 1) h1
    exact ⟨h3, ⟨h4.os.trans h2.os, h4.tape.trans h2.tape, h4.output.trans h2.output, Nat.le_trans h2.size h4.size, fun k hk hne => (h4.block k (Nat.lt_of_lt_of_le hk h2.size) hne).trans (h2.block k hk hne)⟩⟩

theorem Own.puts {α : Type} {enc : α → List Value} {sz : Nat} {w : World} {base e g n c : Nat} {l : List α} (h : Own enc sz w base e (some ⟨g, 0, none⟩) n c l) (he : ∀ x, (enc x).length = sz) (i : Nat) (y : α) (hi : i < n) :
    Own enc sz (putCells w g (i * sz) (enc y)) base e (some ⟨g, 0, none⟩) n c (l.set i y) ∧ w.grownBy (putCells w g (i * sz) (enc y)) (some g) := by
  obtain ⟨h1, h2⟩ := row_puts (enc y) w _ (i * sz) h.row
  rw [putList_flat he l i y (by rw [h.len]; exact hi)] at h1
  exact ⟨⟨by simpa using h.len, h1⟩, h2⟩

/-- A slice that is being filled from its head: one element more. -/
theorem Own.fill {α : Type} {enc : α → List Value} {sz : Nat} {w : World} {base e g n c k : Nat} {l : List α} {z x : α} (h : Own enc sz w base e (some ⟨g, 0, none⟩) n c (l.take k ++ List.replicate (n - k) z)) (he : ∀ x, (enc x).length = sz) (hx : l[k]? = some x) (hk : k < n) :
    Own enc sz (putCells w g (k * sz) (enc x)) base e (some ⟨g, 0, none⟩) n c (l.take (k + 1) ++ List.replicate (n - (k + 1)) z) := by
  have := (h.puts he k x hk).1
  rwa [take_set_replicate l z k n x hx hk] at this

theorem below_puts {B g : Nat} (us : List Value) : ∀ {w w1 : World} (o : Nat), Below B w w1 → B ≤ g → Below B w (putCells w1 g o us) := by
  induction us with
  | nil => intro w w1 o h _; exact h
  | cons u us ih => intro w w1 o h hg; exact ih (o + 1) (h.setCell hg u) hg

/-! ### lists known up to k -/
theorem set_upto {α : Type} {l : List α} {k : Nat} {F : Nat → α} (h : ∀ j, j < k → l[j]? = some (F j)) (hk : k < l.length) : ∀ j, j < k + 1 → (l.set k (F k))[j]? = some (F j) := by
  intro j hj
  by_cases e : j = k
  · subst e; simp [hk]
  · rw [List.getElem?_set_ne (fun h => e h.symm)]; exact h j (by omega)
theorem upto_eq {α : Type} {l : List α} {n : Nat} {F : Nat → α} (hl : l.length = n) (h : ∀ j, j < n → l[j]? = some (F j)) : l = (List.range n).map F := by
  apply List.ext_getElem?
  intro k
  by_cases hk : k < n
  · rw [h k hk]; simp [hk]
  · rw [List.getElem?_eq_none (by omega), List.getElem?_eq_none (by simp; omega)]

theorem grown_trans {a b c : World} {row : Option Nat} (h : a.grownBy b row) (k : b.grownBy c row) : a.grownBy c row :=
  ⟨k.os.trans h.os, k.tape.trans h.tape, k.output.trans h.output, Nat.le_trans h.size k.size, fun i hi hne => (k.block i (Nat.lt_of_lt_of_le hi h.size) hne).trans (h.block i hi hne)⟩
theorem grown_below {a b c : World} {row : Option Nat} (h : a.grownBy b row) (k : Below b.heap.size b c) : a.grownBy c row := grown_trans h (grown_of_below k row)
/-- What lies below a row's own base stands when the row alone is written. -/
theorem Own.below_of {α : Type} {enc : α → List Value} {sz : Nat} {w0 w w' : World} {base : Nat} {e : TypeId} {A : Option Addr} {n c : Nat} {l : List α} {B : Nat} (h : Own enc sz w0 base e A n c l) (hg : w.grownBy w' (blockOf A)) (hB : B ≤ base) (hs : B ≤ w.heap.size) : Below B w w' :=
  below_of_grown hg hs (fun _ hk => Nat.le_trans hB (h.lt hk).1)

/-! ### append -/
theorem Own.of_row {α : Type} {enc : α → List Value} {sz : Nat} {w : World} {base : Nat} {e : TypeId} {v : Value} {n : Nat} {xs : List Value} {l : List α} (hl : l.length = n) (hx : xs = l.flatMap enc) (h : w.ownsRow base e sz v n xs) : ∃ A c, v = .slice A n c ∧ Own enc sz w base e A n c l := by
  subst hx
  rcases h.2 with ⟨rfl, rfl⟩ | ⟨g, cap, cur, rfl, r⟩
  · exact ⟨none, 0, rfl, hl, h⟩
  · exact ⟨_, _, rfl, hl, h⟩

/-- '[]T{}': a new slice without elements. -/
theorem Own.empty {α : Type} (enc : α → List Value) (sz : Nat) (w : World) (e : TypeId) : Own enc sz (w.alloc (.cells #[] e)) w.heap.size e (some ⟨w.heap.size, 0, none⟩) 0 0 [] :=
  ⟨rfl, World.ownsRow_lit w #[] 0 (Nat.le_refl _) (by simp [maxLen]) (by simp)⟩
theorem Own.alloc {α : Type} {enc : α → List Value} {sz : Nat} {w : World} {base : Nat} {e : TypeId} {A : Option Addr} {n c : Nat} {l : List α} (h : Own enc sz w base e A n c l) (o : Obj) : Own enc sz (w.alloc o) base e A n c l := ⟨h.len, h.row.alloc o⟩

/-- 'out = append(out, y)', out the call's own; y lies in a new block of its own. -/
theorem wpList_push {P : Program} {w0 : World} {ops : Array Oper} {rest : List Oper} {o : Oper} {a : Act} {Q : Exit → Act → World → Prop} (hgd : o.guard = none) (s x : Operand) (t : TypeId)
    (ho : o.op = .call { callee := .builtin .append, args := #[s, x], argTypes := #[t, t] }) (base : Nat) (e : TypeId) (i : TypeInfo) (z : Value) (sz bytes : Nat) (ht : P.underlying t = some (.slice e)) (hi : P.info? e = some i) (hz : i.zero = some z)
    (hsize : i.size = sz) (hby : i.bytes = bytes) (hzs : z.cells.size = sz) (hsz : 0 < sz) {α : Type} (enc : α → List Value) (he : ∀ x, (enc x).length = sz) (h1 : ∀ x, ∀ u ∈ enc x, u.oneCell' = true)
    (A : Option Addr) (n c : Nat) (l : List α) (hs : a.eval s = .slice A n c) (hown : Own enc sz w0 base e A n c l) (y : α) (cs : Array Value) (hcs : cs.toList = enc y) (g : Nat) (hx : a.eval x = .slice (some ⟨g, 0, none⟩) 1 1) (hgs : g = w0.heap.size)
    (h63 : n + 1 ≤ maxLen) (hbytes : (n + 1) * bytes ≤ 140737488355328) (hbase : base ≤ w0.heap.size)
    (h : ∀ A' c' w', Own enc sz w' base e A' (n + 1) c' (l ++ [y]) → w0.grownBy w' (blockOf A) → wpList P ops Q rest (a.put o.dst (.slice A' (n + 1) c')) w') :
    wpList P ops Q (o :: rest) a (w0.alloc (.cells cs e)) := by
  subst hgs
  refine wpList_append_own _ hgd s x t ho base e i z sz bytes ht hi hz hsize hby hzs hsz _ n (l.flatMap enc) hs (hown.row.alloc _) ⟨w0.heap.size, 0, none⟩ 1 1 (enc y) hx (by rw [he]; omega) ?_ (h1 y) h63 hbytes (Nat.le_trans hbase (by simp)) ?_
  · intro j u hu
    have hj : j < cs.size := by
      have := (List.getElem?_eq_some_iff.1 hu).1
      rw [← hcs] at this
      simpa using this
    have e1 : (w0.alloc (.cells cs e)).cell? ⟨w0.heap.size, j, none⟩ = cs[j]? := cell_of_row _ _ _ cs e (0, 0) (heap_alloc_new w0 _)
    have e2 : (⟨w0.heap.size, 0, none⟩ : Addr).add j = ⟨w0.heap.size, j, none⟩ := by
      unfold Addr.add
      split
      · rename_i h0; rw [h0]
      · simp
    rw [e2, e1, ← hu, ← hcs, Array.getElem?_toList]
  · intro v' w' hown' hg _
    obtain ⟨A', c', rfl, ho'⟩ := Own.of_row (enc := enc) (l := l ++ [y]) (by simp [hown.len]) (by simp) hown'
    refine h A' c' w' ho' ?_
    rw [ownBlock_slice] at hg
    exact grown_trans (World.grownBy_alloc w0 _ _) hg

/-- 'out = append(out, src...)', out the call's own; src whatever can be read, nil too. -/
theorem wpList_pushAll {P : Program} {w : World} {ops : Array Oper} {rest : List Oper} {o : Oper} {a : Act} {Q : Exit → Act → World → Prop} (hgd : o.guard = none) (s x : Operand) (t : TypeId)
    (ho : o.op = .call { callee := .builtin .append, args := #[s, x], argTypes := #[t, t] }) (base : Nat) (e : TypeId) (i : TypeInfo) (z : Value) (sz bytes : Nat) (ht : P.underlying t = some (.slice e)) (hi : P.info? e = some i) (hz : i.zero = some z)
    (hsize : i.size = sz) (hby : i.bytes = bytes) (hzs : z.cells.size = sz) (hsz : 0 < sz) {α : Type} (enc : α → List Value) (he : ∀ x, (enc x).length = sz) (h1 : ∀ x, ∀ u ∈ enc x, u.oneCell' = true)
    (A : Option Addr) (n c : Nat) (l : List α) (hs : a.eval s = .slice A n c) (hown : Own enc sz w base e A n c l) (B : Option Addr) (m d : Nat) (l' : List α) (hx : a.eval x = .slice B m d) (hsrc : Rd enc sz w B m d l')
    (h63 : n + m ≤ maxLen) (hbytes : (n + m) * bytes ≤ 140737488355328) (hbase : base ≤ w.heap.size)
    (h : ∀ A' c' w', Own enc sz w' base e A' (n + m) c' (l ++ l') → w.grownBy w' (blockOf A) → wpList P ops Q rest (a.put o.dst (.slice A' (n + m) c')) w') :
    wpList P ops Q (o :: rest) a w := by
  cases B with
  | none =>
    have hd := hsrc.nil0 rfl
    have hm0 : m = 0 := by have := hsrc.cap; omega
    subst hd hm0
    have hl' : l' = [] := List.eq_nil_of_length_eq_zero hsrc.len
    subst hl'
    refine wpList_append_own_none hgd s x t ho base e i sz ht hi _ n (l.flatMap enc) hs hown.row hx ?_
    have := h A c w (by simpa using hown) (World.grownBy.refl _ _)
    simpa using this
  | some ad =>
    refine wpList_append_own _ hgd s x t ho base e i z sz bytes ht hi hz hsize hby hzs hsz _ n (l.flatMap enc) hs hown.row ad m d (l'.flatMap enc) hx (by rw [flat_len he, hsrc.len]) ?_ ?_ h63 hbytes hbase ?_
    · intro j u hu
      have hjl : j < l'.length * sz := by
        have := (List.getElem?_eq_some_iff.1 hu).1
        rwa [flat_len he] at this
      have hdiv : j / sz < l'.length := (Nat.div_lt_iff_lt_mul hsz).2 hjl
      obtain ⟨b, off, e1, hc⟩ := hsrc.at_ (Nat.lt_of_le_of_lt (Nat.zero_le _) (Nat.lt_of_lt_of_eq hdiv hsrc.len))
      injection e1 with e1
      subst e1
      have hm' : j % sz < sz := Nat.mod_lt _ hsz
      have hj0 : j = j / sz * sz + j % sz := by rw [Nat.mul_comm]; exact (Nat.div_add_mod j sz).symm
      have hg := flat_get he l' (j / sz) (j % sz) _ (List.getElem?_eq_getElem hdiv) hm'
      rw [← hj0, hu] at hg
      have := hc (j / sz) _ (List.getElem?_eq_getElem hdiv) (j % sz) u hg.symm
      unfold Addr.add
      split
      · rename_i h0; rw [← this]; congr 2; simp [h0]
      · rw [← this]; congr 2; simp only; omega
    · intro u hu
      obtain ⟨x, _, hxu⟩ := List.mem_flatMap.1 hu
      exact h1 x u hxu
    · intro v' w' hown' hg _
      obtain ⟨A', c', rfl, ho'⟩ := Own.of_row (enc := enc) (l := l ++ l') (by simp [hown.len, hsrc.len]) (by simp) hown'
      rw [ownBlock_slice] at hg
      exact h A' c' w' ho' hg

/-- As one step of a region that draws its order. -/
theorem step_pushAll {P : Program} {w : World} {ops : Array Oper} {o : Oper} {a : Act} {K : Act → World → Prop} {Q : Exit → Act → World → Prop} {E : Prop} (hgd : o.guard = none) (s x : Operand) (t : TypeId)
    (ho : o.op = .call { callee := .builtin .append, args := #[s, x], argTypes := #[t, t] }) (base : Nat) (e : TypeId) (i : TypeInfo) (z : Value) (sz bytes : Nat) (ht : P.underlying t = some (.slice e)) (hi : P.info? e = some i) (hz : i.zero = some z)
    (hsize : i.size = sz) (hby : i.bytes = bytes) (hzs : z.cells.size = sz) (hsz : 0 < sz) {α : Type} (enc : α → List Value) (he : ∀ x, (enc x).length = sz) (h1 : ∀ x, ∀ u ∈ enc x, u.oneCell' = true)
    (A : Option Addr) (n c : Nat) (l : List α) (B : Option Addr) (m d : Nat) (l' : List α) (hs : a.eval s = .slice A n c) (hx : a.eval x = .slice B m d)
    (q : Nat) (hq : n + m = q) (h63 : q ≤ maxLen) (hbytes : q * bytes ≤ 140737488355328) (hbase : base ≤ w.heap.size) (hown : Own enc sz w base e A n c l) (hsrc : Rd enc sz w B m d l')
    (h : ∀ A' c' w', Own enc sz w' base e A' q c' (l ++ l') → w.grownBy w' (blockOf A) → K (a.put o.dst (.slice A' q c')) w') :
    if Region.wanted o (yielded ops a.tmps) = true then Oper.wp P o a w K Q else E := by
  subst hq
  have hw : Region.wanted o (yielded ops a.tmps) = true := by simp [Region.wanted, hgd]
  rw [if_pos hw]
  obtain ⟨A', c', w', hrun, ho', hg⟩ : ∃ A' c' w', (Builtin.append_ #[t, t] o.type #[.slice A n c, .slice B m d]).run P w = .ok (.slice A' (n + m) c') w' ∧ Own enc sz w' base e A' (n + m) c' (l ++ l') ∧ w.grownBy w' (blockOf A) := by
    cases B with
    | none =>
      have hd := hsrc.nil0 rfl
      have hm0 : m = 0 := by have := hsrc.cap; omega
      subst hd hm0
      have hl' : l' = [] := List.eq_nil_of_length_eq_zero hsrc.len
      subst hl'
      exact ⟨A, c, w, run_append_owned_none w base t o.type e i sz ht hi _ n _ hown.row, by simpa using hown, World.grownBy.refl _ _⟩
    | some ad =>
      have hnews : ∀ j u, (l'.flatMap enc)[j]? = some u → w.cell? (ad.add j) = some u := by
        intro j u hu
        have hjl : j < l'.length * sz := by
          have := (List.getElem?_eq_some_iff.1 hu).1
          rwa [flat_len he] at this
        have hdiv : j / sz < l'.length := (Nat.div_lt_iff_lt_mul hsz).2 hjl
        obtain ⟨b, off, e1, hc⟩ := hsrc.at_ (Nat.lt_of_le_of_lt (Nat.zero_le _) (Nat.lt_of_lt_of_eq hdiv hsrc.len))
        injection e1 with e1
        subst e1
        have hm' : j % sz < sz := Nat.mod_lt _ hsz
        have hj0 : j = j / sz * sz + j % sz := by rw [Nat.mul_comm]; exact (Nat.div_add_mod j sz).symm
        have hg := flat_get he l' (j / sz) (j % sz) _ (List.getElem?_eq_getElem hdiv) hm'
        rw [← hj0, hu] at hg
        have := hc (j / sz) _ (List.getElem?_eq_getElem hdiv) (j % sz) u hg.symm
        unfold Addr.add
        split
        · rename_i h0; rw [← this]; congr 2; simp [h0]
        · rw [← this]; congr 2; simp only; omega
      have h1' : ∀ u ∈ l'.flatMap enc, u.oneCell' = true := by
        intro u hu
        obtain ⟨x, _, hxu⟩ := List.mem_flatMap.1 hu
        exact h1 x u hxu
      obtain ⟨v', w', hrun, hown', hg, _⟩ := run_append_own (P := P) w base t o.type e i z sz bytes ht hi hz hsize hby hzs hsz _ n _ hown.row ad m d (l'.flatMap enc) (by rw [flat_len he, hsrc.len]) hnews h1' h63 hbytes hbase
      obtain ⟨A', c', rfl, ho'⟩ := Own.of_row (enc := enc) (l := l ++ l') (by simp [hown.len, hsrc.len]) (by simp) hown'
      rw [ownBlock_slice] at hg
      exact ⟨A', c', w', hrun, ho', hg⟩
  unfold Oper.wp execOp
  simp only [ho, resolve, invoke, builtin, Sem.run_bind, Sem.run_pure, Result.andThen_ok, List.map_toArray, List.map_cons, List.map_nil, hs, hx, hrun]
  exact h A' c' w' ho' hg

theorem Own.drew {α : Type} {enc : α → List Value} {sz : Nat} {w : World} {base : Nat} {e : TypeId} {A : Option Addr} {n c : Nat} {l : List α} (h : Own enc sz w base e A n c l) : Own enc sz w.drew base e A n c l := ⟨h.len, h.row⟩
theorem Rd.drew {α : Type} {enc : α → List Value} {sz : Nat} {w : World} {A : Option Addr} {n c : Nat} {l : List α} (h : Rd enc sz w A n c l) : Rd enc sz w.drew A n c l := ⟨h.len, h.cap, h.max, h.nil0, h.at_⟩
theorem Rd.alloc {α : Type} {enc : α → List Value} {sz : Nat} {w : World} {A : Option Addr} {n c : Nat} {l : List α} (h : Rd enc sz w A n c l) (o : Obj) : Rd enc sz (w.alloc o) A n c l := h.below (below_alloc o)
theorem Own.put_below {α : Type} {enc : α → List Value} {sz : Nat} {w w' : World} {base B : Nat} {e : TypeId} {A : Option Addr} {n c : Nat} {l : List α} (h : Own enc sz w base e A n c l) (hb : Below B w w') (hB : ∀ k, blockOf A = some k → k < B) : Own enc sz w' base e A n c l := by
  refine ⟨h.len, h.row.1, ?_⟩
  rcases h.row.2 with h2 | ⟨g, cap, cur, hv, hg, hh, r⟩
  · exact .inl h2
  · have h5 : A = some ⟨g, 0, none⟩ := by injection hv
    exact .inr ⟨g, cap, cur, hv, hg, by rw [hb.block g (hB g (by rw [h5]; rfl))]; exact hh, r⟩

/-- A block that is known whole: an owned slice without elements, or a slice of one element. -/
theorem Own.of_block {α : Type} {enc : α → List Value} {sz : Nat} {w : World} {base : Nat} {e : TypeId} {g : Nat} (h : w.heap[g]? = some (.cells #[] e (0, 0))) (hb : base ≤ g) : Own enc sz w base e (some ⟨g, 0, none⟩) 0 0 [] :=
  ⟨rfl, by simp, .inr ⟨g, 0, #[], rfl, hb, h, Nat.le_refl _, by simp [maxLen], by simp, by simp⟩⟩
theorem Rd.of_block {α : Type} {enc : α → List Value} {sz : Nat} {w : World} {e : TypeId} {fr : Nat × Nat} {g : Nat} {cs : Array Value} {y : α} (h : w.heap[g]? = some (.cells cs e fr)) (hcs : cs.toList = enc y) : Rd enc sz w (some ⟨g, 0, none⟩) 1 1 [y] := by
  refine ⟨rfl, Nat.le_refl _, by simp [maxLen], (fun h => by cases h), fun _ => ⟨g, 0, rfl, fun i x hx j u hu => ?_⟩⟩
  have hi : i = 0 := by
    have := (List.getElem?_eq_some_iff.1 hx).1
    simpa using this
  subst hi
  simp at hx
  subst hx
  rw [cell_of_row w g _ cs e fr h, ← Array.getElem?_toList, hcs]
  simpa using hu
theorem heap_new {w : World} {o : Obj} {k : Nat} (hk : k = w.heap.size) : (w.alloc o).heap[k]? = some o := by subst hk; exact heap_alloc_new w o
theorem heap_old {w : World} {o o' : Obj} {k : Nat} (h : w.heap[k]? = some o) : (w.alloc o').heap[k]? = some o := by
  have hk : k < w.heap.size := by
    rcases Nat.lt_or_ge k w.heap.size with hlt | hge
    · exact hlt
    · rw [Array.getElem?_eq_none hge] at h; cases h
  rw [Below.heap_alloc _ _ _ hk]; exact h
theorem heap_grown {w w' : World} {o : Obj} {k : Nat} {row : Option Nat} (hg : w.grownBy w' row) (h : w.heap[k]? = some o) (hne : some k ≠ row) : w'.heap[k]? = some o := by
  have hk : k < w.heap.size := by
    rcases Nat.lt_or_ge k w.heap.size with hlt | hge
    · exact hlt
    · rw [Array.getElem?_eq_none hge] at h; cases h
  rw [hg.block k hk hne]; exact h

theorem below_push {α : Type} {enc : α → List Value} {sz : Nat} {w w1 w2 : World} {base : Nat} {e : TypeId} {A : Option Addr} {n c : Nat} {l : List α} (hb : Below w.heap.size w w1) (ho : Own enc sz w1 base e A n c l) (hg : w1.grownBy w2 (blockOf A)) (hB : w.heap.size ≤ base) : Below w.heap.size w w2 :=
  hb.trans (ho.below_of hg hB hb.size)

theorem Own.not_block {α : Type} {enc : α → List Value} {sz : Nat} {w : World} {base : Nat} {e : TypeId} {A : Option Addr} {n c : Nat} {l : List α} (h : Own enc sz w base e A n c l) {k : Nat} (hk : k < base) : some k ≠ blockOf A := fun e => by
  have := (h.lt e.symm).1
  omega

theorem ret_str {a b : ByteArray} (h : a = b) : Ending.returned (.string a) = .returned (.string b) := by rw [h]
theorem ret_str_bool {a c : ByteArray} {b d : Bool} (h : a = c) (h' : b = d) : Ending.returned (.tuple #[.string a, .bool b]) = .returned (.tuple #[.string c, .bool d]) := by rw [h, h']
theorem ret_int {a b : Int} (h : a = b) : Ending.returned (.int .i64 a) = .returned (.int .i64 b) := by rw [h]
theorem ret_bool {a b : Bool} (h : a = b) : Ending.returned (.bool a) = .returned (.bool b) := by rw [h]
theorem ret_int_bool {a c : Int} {b d : Bool} (h : a = c) (h' : b = d) : Ending.returned (.tuple #[.int .i64 a, .bool b]) = .returned (.tuple #[.int .i64 c, .bool d]) := by rw [h, h']
theorem ret_bool_bool {a c b d : Bool} (h : a = c) (h' : b = d) : Ending.returned (.tuple #[.bool a, .bool b]) = .returned (.tuple #[.bool c, .bool d]) := by rw [h, h']

end Go.Proofs.Ytndoapgalbljpaa
