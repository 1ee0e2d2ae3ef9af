/-
  YtndoapgalbljpaaFrameN: arguments whose elements hold slices, opened to Lean values. No program in sight but the types.
-/
import Derived.Test.YtndoapgalbljpaaFrame
import Derived.Test.YtndoapgalbljpaaNest
namespace Go.Proofs.Ytndoapgalbljpaa
open Go Go.ChangeShapes Go.WideShapes Go.ChangeAt Go.RowKit Go.Deep

/-- Every reading of the type e in the world W gives cells that encode one value of α. -/
def ReaderAt {α : Type} (P : Program) (W : World) (e : TypeId) (ec : α → List Value) (good : α → Prop) : Prop :=
  ∀ {H : Type} (enc : TypeId × Value → H) (base : Nat) (spare : Nat → Bool) (held : Bool) (fuel : Nat) (cs : List Value) (x : DataW H × List MemPlace), DataW.trod enc P W base spare held fuel e cs = some x → ∃ a, cs = ec a ∧ good a

/-- The cells of a slice value. -/
theorem rd_of_trod {P : Program} {t e : TypeId} {α : Type} {ec : α → List Value} {sz : Nat} {good : α → Prop} {H : Type} {enc : TypeId × Value → H} {W : World} (ht : P.underlying t = some (.slice e)) (hc : P.cellsOf e = sz) (hr : ReaderAt P W e ec good) (hs : 0 < sz) (hl : ∀ x, (ec x).length = sz)
    {base : Nat} {spare : Nat → Bool} {held : Bool} {fuel : Nat} {cs : List Value} {x : DataW H × List MemPlace} (hf : DataW.trod enc P W base spare held fuel t cs = some x) :
    ∃ (A : Option Addr) (n c : Nat) (l : List α), cs = [.slice A n c] ∧ Rd ec sz W A n c l ∧ ∀ x ∈ l, good x := by
  rcases open_slice ht hf with ⟨h0, _⟩ | ⟨a, len', cap', m, n, D, Pl, hcs, _, hle, hcm, hmm, _, hi⟩
  · subst h0
    exact ⟨none, 0, 0, [], rfl, Rd.nil, fun x hx => by cases hx⟩
  · subst hcs
    obtain ⟨len, rfl⟩ : ∃ q, q = len' := ⟨_, rfl⟩
    obtain ⟨cap, rfl⟩ : ∃ q, q = cap' := ⟨_, rfl⟩
    have hlm : len ≤ m := by rw [hmm]; split <;> omega
    have hx : ∀ i, i < len → ∃ x : α, good x ∧ ∀ j u, (ec x)[j]? = some u → W.cell? (a.add (i * sz + j)) = some u := fun i hil => by
      obtain ⟨cs', hc', ht'⟩ := hi i (by omega)
      obtain ⟨_, _, hat⟩ := World.cells?_some hc'
      obtain ⟨x, rfl, hg⟩ := hr enc base spare held n cs' _ ht'
      refine ⟨x, hg, fun j u hu => ?_⟩
      have hj : j < sz := by rw [← hl x]; exact (List.getElem?_eq_some_iff.1 hu).1
      have := hat j (by rw [hc]; exact hj)
      rw [hc, hu] at this
      rw [← this]
      unfold Addr.add
      by_cases e1 : i * sz = 0 <;> by_cases e2 : j = 0 <;> simp [e1, e2, Nat.add_assoc]
    obtain ⟨X, hX⟩ : ∃ X : Nat → Option α, ∀ i, i < len → ∃ x, X i = some x ∧ good x ∧ ∀ j u, (ec x)[j]? = some u → W.cell? (a.add (i * sz + j)) = some u := by
      refine ⟨fun i => if h : i < len then some (Classical.choose (hx i h)) else none, fun i h => ?_⟩
      exact ⟨Classical.choose (hx i h), by simp [h], (Classical.choose_spec (hx i h)).1, (Classical.choose_spec (hx i h)).2⟩
    have hall : ∀ k, k ≤ len → ((List.range k).filterMap X).length = k ∧ ∀ i, i < k → ((List.range k).filterMap X)[i]? = X i := by
      intro k
      induction k with
      | zero => intro _; exact ⟨rfl, fun i h => absurd h (by omega)⟩
      | succ k ih =>
        intro hk
        obtain ⟨h1, h2⟩ := ih (by omega)
        obtain ⟨x, hxk, _⟩ := hX k (by omega)
        have e : (List.range (k + 1)).filterMap X = (List.range k).filterMap X ++ [x] := by rw [List.range_succ, List.filterMap_append]; simp [hxk]
        rw [e]
        refine ⟨by simp [h1], fun i hi => ?_⟩
        by_cases hik : i = k
        · subst hik; rw [List.getElem?_append_right (by omega), h1]; simp [hxk]
        · rw [List.getElem?_append_left (by omega)]; exact h2 i (by omega)
    obtain ⟨h1, h2⟩ := hall len (Nat.le_refl _)
    refine ⟨some a, len, cap, (List.range len).filterMap X, rfl, ⟨h1, hle, hcm, (fun h => by cases h), fun hn => ?_⟩, fun x hx => ?_⟩
    · obtain ⟨x0, _, _, hc0⟩ := hX 0 hn
      have h00 := hc0 0 ((ec x0)[0]'(by rw [hl]; exact hs)) (List.getElem?_eq_getElem _)
      have hsp : a.spot = none := by
        cases hsp : a.spot with
        | none => rfl
        | some k =>
          exfalso
          simp only [Nat.zero_mul, Nat.add_zero, Addr.add, if_true] at h00
          unfold World.cell? at h00
          split at h00
          · simp [hsp] at h00
          · cases h00
      obtain ⟨ab, ao, asp⟩ := a
      simp only at hsp
      subst hsp
      refine ⟨ab, ao, rfl, fun i x hix j u hu => ?_⟩
      have hi : i < len := by rw [← h1]; exact (List.getElem?_eq_some_iff.1 hix).1
      rw [h2 i hi] at hix
      obtain ⟨x', hx', _, hc'⟩ := hX i hi
      rw [hx'] at hix
      injection hix with hix
      subst hix
      have := hc' j u hu
      unfold Addr.add at this
      split at this
      · rename_i h0; rw [← this]; congr 2; omega
      · rw [← this]; congr 2; simp only; omega
    · obtain ⟨i, hi⟩ := List.mem_iff_getElem?.1 hx
      have hil : i < len := by rw [← h1]; exact (List.getElem?_eq_some_iff.1 hi).1
      rw [h2 i hil] at hi
      obtain ⟨x', hx', hg, _⟩ := hX i hil
      rw [hx'] at hi
      injection hi with hi
      subst hi
      exact hg


theorem reader_at {P : Program} {W : World} {e : TypeId} {α : Type} {ec : α → List Value} {good : α → Prop} (h : Reader P e ec good) : ReaderAt P W e ec good := fun enc base spare held fuel cs x hx => h enc W base spare held fuel cs x hx

/-- The headers and the rows of clauses, at a world. -/
def clAtW (W : World) (h : HC) (x : CL) : Prop := Rd stV 1 W h.wA h.wn h.wc x.ws ∧ Rd inV 1 W h.nA h.nn h.nc x.ns ∧ (∀ s ∈ x.ws, s.size ≤ maxLen) ∧ ∀ y ∈ x.ns, in64 y
theorem cells_cl : Try.prog.cellsOf 55 = 2 := by kernel_rfl
theorem cells_s : Try.prog.cellsOf 45 = 1 := by kernel_rfl
theorem cells_i : Try.prog.cellsOf 38 = 1 := by kernel_rfl
theorem cells_s1 : Try.prog.cellsOf 9 = 1 := by kernel_rfl
theorem cells_i1 : Try.prog.cellsOf 3 = 1 := by kernel_rfl
theorem readn_strs (W : World) : ReaderAt Try.prog W 45 (fun h : Option Addr × Nat × Nat => [.slice h.1 h.2.1 h.2.2]) (fun h => ∃ l, Rd stV 1 W h.1 h.2.1 h.2.2 l ∧ ∀ s ∈ l, s.size ≤ maxLen) := fun enc base spare held fuel cs x hx => by
  obtain ⟨A, n, c, l, e, R, g⟩ := rd_of_trod (ec := stV) Try.underlying45 cells_s1 (reader_at (reader_string Try.underlying9)) (by omega) stV_len hx
  exact ⟨(A, n, c), e, l, R, g⟩
theorem readn_ints (W : World) : ReaderAt Try.prog W 38 (fun h : Option Addr × Nat × Nat => [.slice h.1 h.2.1 h.2.2]) (fun h => ∃ l, Rd inV 1 W h.1 h.2.1 h.2.2 l ∧ ∀ s ∈ l, in64 s) := fun enc base spare held fuel cs x hx => by
  obtain ⟨A, n, c, l, e, R, g⟩ := rd_of_trod (ec := inV) Try.underlying38 cells_i1 (reader_at (reader_int Try.underlying3)) (by omega) inV_len hx
  exact ⟨(A, n, c), e, l, R, g⟩
theorem field_at {P : Program} {t : TypeId} {fs : Array Field} {α : Type} {ec : α → List Value} {good : α → Prop} (ht : P.underlying t = some (.struct fs)) {H : Type} {enc : TypeId × Value → H} {w : World} {base : Nat} {spare : Nat → Bool} {held : Bool} {fuel : Nat} {cs : List Value} {x : DataW H × List MemPlace}
    (h : DataW.trod enc P w base spare held fuel t cs = some x) (i : Nat) (f : Field) (hf : fs[i]? = some f) (o k : Nat) (ho : f.offset = o) (hk : P.cellsOf f.type = k) (hr : ReaderAt P w f.type ec good) : ∃ a, (cs.drop o).take k = ec a ∧ good a := by
  subst ho hk
  obtain ⟨xs, n, _, _, _, hxl, hg⟩ := DataW.trod_struct ht h
  have hi : i < xs.length := by rw [hxl]; exact (Array.getElem?_eq_some_iff.1 hf).1
  have := hg i f hf
  rw [List.getElem?_eq_getElem hi] at this
  exact hr enc base spare held n _ _ this
theorem read_cl (W : World) : ReaderAt Try.prog W 55 hCV (fun h => ∃ x, clAtW W h x) := fun enc base spare held fuel cs x h => by
  obtain ⟨a, ha, la, ra, ga⟩ := field_at Try.underlying55 h 0 _ rfl 0 1 rfl cells_s (readn_strs W)
  obtain ⟨b, hb, lb, rb, gb⟩ := field_at Try.underlying55 h 1 _ rfl 1 1 rfl cells_i (readn_ints W)
  have hl := (struct_len Try.underlying55 h).trans cells_cl
  match cs, hl with
  | [c0, c1], _ => simp at ha hb; exact ⟨⟨a.1, a.2.1, a.2.2, b.1, b.2.1, b.2.2⟩, by simp [hCV, ha, hb], ⟨la, lb⟩, ra, rb, ga, gb⟩

set_option maxRecDepth 100000 in
/-- An argument that is a slice of clauses. -/
theorem open_cls {H : Type} {enc : TypeId × Value → H} {W : World} {b0 : Nat} {r : Reach} {base : Nat} {spare : Nat → Bool} {held : Bool} {v : Value} {d : DataW H} {ps : List MemPlace} (hval : Value.okWide Try.prog W r b0 22 v) (h : DataW.Trod enc Try.prog W base spare held 22 v d ps) :
    ∃ (A : Option Addr) (n c : Nat) (hs : List HC) (l : List CL), v = .slice A n c ∧ RdC W A n c hs l ∧ ∀ x ∈ l, CLgood x := by
  obtain ⟨a0, len, cap, rfl⟩ := okWide_slice Try.underlying22 hval
  obtain ⟨fuel, hf⟩ := h
  simp only [Value.cells] at hf
  obtain ⟨A, n, c, hs, e, R, g⟩ := rd_of_trod (ec := hCV) Try.underlying22 cells_cl (read_cl W) (by omega) hCV_len hf
  injection e with e
  injection e with e1 e2 e3
  subst e1 e2 e3
  have hx : ∀ i h, hs[i]? = some h → ∃ x, clAtW W h x := fun i h hi => g h (List.mem_of_getElem? hi)
  have key : ∀ (hs : List HC), (∀ h ∈ hs, ∃ x, clAtW W h x) → ∃ l : List CL, l.length = hs.length ∧ ∀ (i : Nat) h x, hs[i]? = some h → l[i]? = some x → clAtW W h x := by
    intro hs
    induction hs with
    | nil => intro _; exact ⟨[], rfl, fun i h x h1 => by simp at h1⟩
    | cons h t ih =>
      intro hg
      obtain ⟨x, hx⟩ := hg h (by simp)
      obtain ⟨l, hl, hi⟩ := ih (fun y hy => hg y (by simp [hy]))
      refine ⟨x :: l, by simp [hl], fun i h' x' h1 h2 => ?_⟩
      cases i with
      | zero => simp at h1 h2; rw [← h1, ← h2]; exact hx
      | succ i => exact hi i h' x' (by simpa using h1) (by simpa using h2)
  obtain ⟨l, hl, hi⟩ := key hs g
  refine ⟨_, _, _, hs, l, rfl, ⟨R, by rw [hl, R.len], fun i h x h1 h2 => (hi i h x h1 h2).1, fun i h x h1 h2 => (hi i h x h1 h2).2.1⟩, fun x hx => ?_⟩
  obtain ⟨i, hix⟩ := List.mem_iff_getElem?.1 hx
  have hil : i < hs.length := by rw [← hl]; exact (List.getElem?_eq_some_iff.1 hix).1
  exact (hi i _ x (List.getElem?_eq_getElem hil) hix).2.2

end Go.Proofs.Ytndoapgalbljpaa
