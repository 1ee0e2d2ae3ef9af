/-
  YtcockjjilcapaaaGreatSrtK: rows of the call's own and slices.SortFunc: what a row holds ahead of the sort and behind it. No program in sight.
-/
import Derived.Test.YtcockjjilcapaaaGreatCommon
import Derived.Lib.OwnBridge
import Derived.Shelf.SlSortCmp.NoneTotal
namespace Go.Proofs.YtcockjjilcapaaaGreat
open Go Go.RowKit Go.Sort
set_option linter.unusedVariables false

theorem below_grow0 (w : World) (os : Array Obj) : Below w.heap.size w (grow w os) := ⟨rfl, rfl, rfl, by simp, fun k hk => heap_grow_old _ _ hk⟩
theorem arr_get {α : Type} [Inhabited α] (l : List α) {i : Nat} (h : i < l.length) : l.toArray[i]! = l[i] := by
  rw [getElem!_pos _ _ (by simpa using h)]
  simp
theorem flatK_toList {α : Type} [Inhabited α] {enc : α → List Value} {sz : Nat} (he : ∀ x, (enc x).length = sz) (hs : 0 < sz) (l : List α) : (flatK enc sz l.toArray).toList = l.flatMap enc := by
  apply List.ext_getElem?
  intro t
  have hsz : (flatK enc sz l.toArray).size = l.length * sz := by simp
  by_cases ht : t < l.length * sz
  · have hi : t / sz < l.length := (Nat.div_lt_iff_lt_mul hs).2 ht
    have hm : t % sz < sz := Nat.mod_lt _ hs
    have e : t / sz * sz + t % sz = t := by rw [Nat.mul_comm]; exact Nat.div_add_mod t sz
    have h1 := flat_get he l (t / sz) (t % sz) l[t / sz] (List.getElem?_eq_getElem hi) hm
    rw [e] at h1
    have h2 := get_flatK enc sz l.toArray t (by simpa using ht)
    rw [getElem!_pos _ _ (by rw [hsz]; exact ht)] at h2
    rw [Array.getElem?_toList, Array.getElem?_eq_getElem (by rw [hsz]; exact ht), h2, h1, arr_get l hi]
    have hl : t % sz < (enc l[t / sz]).length := by rw [he]; exact hm
    rw [getElem!_pos (enc l[t / sz]) (t % sz) hl, List.getElem?_eq_getElem hl]
  · rw [List.getElem?_eq_none (by rw [Array.length_toList, hsz]; omega), List.getElem?_eq_none (by rw [flat_len he]; omega)]
theorem Own.holdsK {α : Type} [Inhabited α] {enc : α → List Value} {sz : Nat} {w : World} {base : Nat} {e : TypeId} {g n c : Nat} {l : List α} (h : Own enc sz w base e (some ⟨g, 0, none⟩) n c l) (he : ∀ x, (enc x).length = sz) (hs : 0 < sz) : HoldsK enc sz w g 0 l.toArray := by
  intro t ht
  have ht' : t < l.length * sz := by simpa using ht
  have hi : t / sz < l.length := (Nat.div_lt_iff_lt_mul hs).2 ht'
  have hm : t % sz < sz := Nat.mod_lt _ hs
  have e0 : t / sz * sz + t % sz = t := by rw [Nat.mul_comm]; exact Nat.div_add_mod t sz
  refine ⟨?_, by rw [Nat.zero_add]; exact h.frozen t⟩
  have hl : t % sz < (enc l[t / sz]).length := by rw [he]; exact hm
  have h1 := h.cell he (List.getElem?_eq_getElem hi) (List.getElem?_eq_getElem hl)
  rw [e0] at h1
  rw [Nat.zero_add, h1, get_flatK enc sz l.toArray t (by simpa using ht'), arr_get l hi, getElem!_pos (enc l[t / sz]) (t % sz) hl]
  rfl
theorem take_putCells (cur F : Array Value) (h : F.size ≤ cur.size) : (Sort.putCells id 0 F cur).toList.take F.size = F.toList := by
  apply List.ext_getElem?
  intro j
  by_cases hj : j < F.size
  · rw [List.getElem?_take_of_lt hj, Array.getElem?_toList, Array.getElem?_toList]
    simp [Sort.putCells, hj, show j < cur.size by omega]
  · rw [List.getElem?_take_eq_none (by omega), List.getElem?_eq_none (by simp; omega)]
theorem heap_putRow {w : World} {g q : Nat} {os : Array Obj} {cur F : Array Value} {e : TypeId} {fr : Nat × Nat} (hb : w.heap[g]? = some (.cells cur e fr)) :
    (grow (putRow id (Sort.ahead w q) g 0 F) os).heap[g]? = some (.cells (Sort.putCells id 0 F cur) e fr) := by
  have hg : g < w.heap.size := (Array.getElem?_eq_some_iff.1 hb).1
  rw [heap_grow_old _ _ (by simpa using hg)]
  simp [putRow, mapBlock, Sort.ahead, Array.getElem?_modify, hb, onCells]
theorem Own.sortedK {α : Type} [Inhabited α] {enc : α → List Value} {sz : Nat} {w : World} {base : Nat} {e : TypeId} {g n c q : Nat} {l ys : List α} {os : Array Obj} (h : Own enc sz w base e (some ⟨g, 0, none⟩) n c l) (he : ∀ x, (enc x).length = sz) (hs : 0 < sz) (hy : ys.length = l.length) :
    Own enc sz (sortWorldK enc sz w g 0 q ys.toArray os) base e (some ⟨g, 0, none⟩) n c ys := by
  have hn := h.len
  refine ⟨by rw [hy, hn], by rw [flat_len he, hy, hn], ?_⟩
  rcases h.row.2 with ⟨h0, _⟩ | ⟨g', cap, cur, hv, hb, hh, h1, h2, h3, h4⟩
  · cases h0
  · injection hv with a1 a2 a3
    injection a1 with a1
    injection a1 with a1
    subst a1 a3
    have hF := flatK_toList he hs ys
    have hFs : (flatK enc sz ys.toArray).size = n * sz := by rw [size_flatK]; simp [hy, hn]
    refine .inr ⟨g, c, Sort.putCells id 0 (flatK enc sz ys.toArray) cur, rfl, hb, heap_putRow hh, h1, h2, by simpa [Sort.putCells] using h3, ?_⟩
    rw [← hF, ← hFs]
    exact take_putCells _ _ (by rw [hFs, h3]; exact Nat.mul_le_mul_right _ h1)
theorem below_sortK {α : Type} [Inhabited α] {enc : α → List Value} {sz B g q : Nat} {w0 w : World} {d : Array α} {os : Array Obj} (h : Below B w0 w) (hB : B ≤ w0.heap.size) (hg : B ≤ g) : Below B w0 (sortWorldK enc sz w g 0 q d os) := by
  have h1 := Lib.below_putRow (enc := (id : Value → Value)) (q := q) (d := flatK enc sz d) h hg
  refine h1.trans ((?_ : Below (putRow id (Sort.ahead w q) g 0 (flatK enc sz d)).heap.size _ _).mono (Nat.le_trans hB h1.size))
  exact below_grow0 _ os
/-- One cell an element. -/
theorem Own.holds1 {α : Type} [Inhabited α] {enc : α → Value} {w : World} {base : Nat} {e : TypeId} {g n c : Nat} {l : List α} (h : Own (fun x => [enc x]) 1 w base e (some ⟨g, 0, none⟩) n c l) : Holds enc w g 0 l.toArray := by
  intro j hj
  have hj' : j < l.length := by simpa using hj
  refine ⟨?_, by rw [Nat.zero_add]; exact h.frozen j⟩
  have := h.cell (fun _ => rfl) (i := j) (j := 0) (List.getElem?_eq_getElem hj') rfl
  rw [Nat.mul_one, Nat.add_zero] at this
  rw [Nat.zero_add, this, arr_get l hj']
theorem Own.sorted1 {α : Type} [Inhabited α] {enc : α → Value} {w : World} {base : Nat} {e : TypeId} {g n c q : Nat} {l ys : List α} {os : Array Obj} (h : Own (fun x => [enc x]) 1 w base e (some ⟨g, 0, none⟩) n c l) (hy : ys.length = l.length) :
    Own (fun x => [enc x]) 1 (sortWorld enc w g 0 q ys.toArray os) base e (some ⟨g, 0, none⟩) n c ys := by
  have hn := h.len
  refine ⟨by rw [hy, hn], by rw [flat_len (enc := fun x => [enc x]) (sz := 1) (fun _ => rfl) ys, hy, hn], ?_⟩
  rcases h.row.2 with ⟨h0, _⟩ | ⟨g', cap, cur, hv, hb, hh, h1, h2, h3, h4⟩
  · cases h0
  · injection hv with a1 a2 a3
    injection a1 with a1
    injection a1 with a1
    subst a1 a3
    have hg : g < w.heap.size := (Array.getElem?_eq_some_iff.1 hh).1
    refine .inr ⟨g, c, Sort.putCells enc 0 ys.toArray cur, rfl, hb, ?_, h1, h2, by simpa [Sort.putCells] using h3, ?_⟩
    · unfold sortWorld
      rw [heap_grow_old _ _ (by simpa using hg)]
      simp [putRow, mapBlock, Sort.ahead, Array.getElem?_modify, hh, onCells]
    · have hc : ys.length ≤ cur.size := by rw [h3, hy, hn]; omega
      apply List.ext_getElem?
      intro j
      have hyn : n * 1 = ys.length := by rw [hy, hn]; omega
      rw [hyn]
      by_cases hj : j < ys.length
      · have hf : (ys.flatMap fun x => [enc x])[j]? = some (enc ys[j]) := by
          have := flat_get (enc := fun x => [enc x]) (sz := 1) (fun _ => rfl) ys j 0 ys[j] (List.getElem?_eq_getElem hj) (by omega)
          simpa using this
        rw [List.getElem?_take_of_lt hj, Array.getElem?_toList, hf]
        simp [Sort.putCells, hj, show j < cur.size by omega]
      · rw [List.getElem?_take_eq_none (by omega), List.getElem?_eq_none (by rw [flat_len (enc := fun x => [enc x]) (sz := 1) (fun _ => rfl) ys]; omega)]
theorem below_sort1 {α : Type} [Inhabited α] {enc : α → Value} {B g q : Nat} {w0 w : World} {d : Array α} {os : Array Obj} (h : Below B w0 w) (hB : B ≤ w0.heap.size) (hg : B ≤ g) : Below B w0 (sortWorld enc w g 0 q d os) := by
  have h1 := Lib.below_putRow (enc := enc) (q := q) (d := d) h hg
  refine h1.trans ((?_ : Below (putRow enc (Sort.ahead w q) g 0 d).heap.size _ _).mono (Nat.le_trans hB h1.size))
  exact below_grow0 _ os
theorem perm_of_in {α : Type} [Inhabited α] {l : List α} {d' : Array α} (h : PermIn 0 l.toArray.size l.toArray d') : d'.toList.Perm l ∧ d'.toList.length = l.length := by
  obtain ⟨h1, _, h3⟩ := h
  have e1 : d'.extract 0 l.toArray.size = d' := by rw [← h1]; exact Array.extract_size
  rw [e1, Array.extract_size] at h3
  exact ⟨by simpa using h3, by simpa using h1⟩

end Go.Proofs.YtcockjjilcapaaaGreat
