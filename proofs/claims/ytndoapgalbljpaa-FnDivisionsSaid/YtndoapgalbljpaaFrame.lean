/-
  YtndoapgalbljpaaFrame: what every law's row shares: from 'the call returns true and nothing that was there has turned' to the row's post; and arguments opened to Lean values. No program in sight.
-/
import Derived.Test.YtndoapgalbljpaaCommon
import Derived.ProofKit
import Derived.OpenShut
import Derived.Deep.Slices
namespace Go.Proofs.Ytndoapgalbljpaa
open Go Go.ChangeShapes Go.WideShapes Go.ChangeAt Go.RowKit Go.Deep

section
variable {H : Type} {enc : TypeId × Value → H} {P : Program}

theorem trodAll_below (hl : laidOutB P = true) {W W' : World} (hb : Below W.heap.size W W') : ∀ (ts : List TypeId) (vs : List Value) (ds : List (DataW H)) (ps : List MemPlace),
    (ts.all fun t => P.readableRec t && decide (t < P.types.size)) = true → DataW.TrodAll enc P W 0 (fun _ => true) true ts vs ds ps → (∀ x ∈ ps, x.block < W.heap.size) →
    DataW.TrodAll enc P W' 0 (fun b => decide (b < W.heap.size)) true ts vs ds ps
  | [], vs, ds, ps, _, h, _ => by
    obtain ⟨rfl, rfl, rfl⟩ := trodAll_nil h
    exact trodAll_mk0
  | t :: ts, vs, ds, ps, ht, h, hlt => by
    obtain ⟨v, vs', d, ds', p, q, rfl, rfl, rfl, h1, h2⟩ := trodAll_cons h
    simp only [List.all_cons, Bool.and_eq_true, decide_eq_true_eq] at ht
    exact trodAll_cons_mk (Below.trod hl ht.1.1 ht.1.2 h1 hb (fun x hx => hlt x (List.mem_append_left _ hx)))
      (trodAll_below hl hb ts vs' ds' q ht.2 h2 (fun x hx => hlt x (List.mem_append_right _ hx)))

/-- The post of a law: true comes back, the arguments read as they did, of old memory nothing has turned. -/
theorem law_post {f : Func} {s : ChangeSpec} {W W' : World} {args : Array Value} {ds : List (DataW H)} {before : List MemPlace} {tb : TypeId} (hl : laidOutB P = true)
    (hps : (f.params.toList.all fun t => P.readableRec t && decide (t < P.types.size)) = true) (hrt : f.resultTypes.toList = [tb]) (htb : P.underlying tb = some .bool) (hsv : s.vars = [])
    (hW : DataW.Whole enc P f.params.toList s.vars false W args.toList ds [] before) (hr : (s.fn H (ds ++ [])).results = [.lit (.bool true)]) (ha : (s.fn H (ds ++ [])).args = ds) (hv : (s.fn H (ds ++ [])).vars = []) (hb : Below W.heap.size W W') :
    s.post enc P f false true false false W args (.bool true) W' := by
  have hlt : ∀ p ∈ before, p.block < W.heap.size := fun p hp => hW.lt p hp
  have hW' := hW
  obtain ⟨p, q, hA, hV, rfl, _, _⟩ := hW
  rw [hsv] at hV
  obtain ⟨_, rfl⟩ := trodVars_none hV
  have hsz : f.resultTypes.size = 1 := by rw [← Array.length_toList, hrt]; rfl
  refine ⟨ds, [], _, [], p, [], hW', ?_, ?_, ?_, hb.frame _, fun h => by cases h⟩
  · rw [hr, hrt, hsz]
    exact trodAll_mk1 (shut_bool htb true)
  · rw [ha]
    exact trodAll_below hl hb _ _ _ _ hps hA (fun x hx => hlt x (List.mem_append_left _ hx))
  · rw [hv, hsv]
    rfl
end

/-- Every reading of the type e gives cells that encode one value of α. -/
def Reader {α : Type} (P : Program) (e : TypeId) (ec : α → List Value) (good : α → Prop) : Prop :=
  ∀ {H : Type} (enc : TypeId × Value → H) (w : World) (base : Nat) (spare : Nat → Bool) (held : Bool) (fuel : Nat) (cs : List Value) (x : DataW H × List MemPlace), DataW.trod enc P w base spare held fuel e cs = some x → ∃ a, cs = ec a ∧ good a

def in64 (n : Int) : Prop := -9223372036854775808 ≤ n ∧ n ≤ 9223372036854775807
theorem in64_of_wf {n : Int} (h : (Lit.int .i64 n).wf = true) : in64 n := by simpa [in64, Lit.wf, IntKind.min, IntKind.max, IntKind.signed, IntKind.bits] using h

theorem reader_int {P : Program} {e : TypeId} (he : P.underlying e = some (.int .i64)) : Reader P e (fun n : Int => [.int .i64 n]) in64 := fun enc w base spare held fuel cs x h => by
  obtain ⟨n, hc, _, hw⟩ := DataW.trod_int he h
  exact ⟨n, hc, in64_of_wf hw⟩
theorem reader_string {P : Program} {e : TypeId} (he : P.underlying e = some .string) : Reader P e (fun s : ByteArray => [.string s]) (fun s => s.size ≤ maxLen) := fun enc w base spare held fuel cs x h => by
  obtain ⟨s, hc, _, hw⟩ := DataW.trod_string he h
  exact ⟨s, hc, hw⟩
theorem reader_bool {P : Program} {e : TypeId} (he : P.underlying e = some .bool) : Reader P e (fun b : Bool => [.bool b]) (fun _ => True) := fun enc w base spare held fuel cs x h => by
  obtain ⟨b, hc, _⟩ := DataW.trod_bool he h
  exact ⟨b, hc, trivial⟩

/-- One field of a struct. -/
theorem field_of {P : Program} {t : TypeId} {fs : Array Field} {α : Type} {ec : α → List Value} {good : α → Prop} (ht : P.underlying t = some (.struct fs)) {H : Type} {enc : TypeId × Value → H} {w : World} {base : Nat} {spare : Nat → Bool} {held : Bool} {fuel : Nat} {cs : List Value} {x : DataW H × List MemPlace}
    (h : DataW.trod enc P w base spare held fuel t cs = some x) (i : Nat) (f : Field) (hf : fs[i]? = some f) (o k : Nat) (ho : f.offset = o) (hk : P.cellsOf f.type = k) (hr : Reader P f.type ec good) : ∃ a, (cs.drop o).take k = ec a ∧ good a := by
  subst ho hk
  obtain ⟨xs, n, _, _, _, hxl, hg⟩ := DataW.trod_struct ht h
  have hi : i < xs.length := by rw [hxl]; exact (Array.getElem?_eq_some_iff.1 hf).1
  have := hg i f hf
  rw [List.getElem?_eq_getElem hi] at this
  exact hr enc w base spare held n _ _ this
theorem struct_len {P : Program} {t : TypeId} {fs : Array Field} (ht : P.underlying t = some (.struct fs)) {H : Type} {enc : TypeId × Value → H} {w : World} {base : Nat} {spare : Nat → Bool} {held : Bool} {fuel : Nat} {cs : List Value} {x : DataW H × List MemPlace}
    (h : DataW.trod enc P w base spare held fuel t cs = some x) : cs.length = P.cellsOf t := by
  obtain ⟨_, _, _, _, hl, _⟩ := DataW.trod_struct ht h
  exact hl

/-- An argument that is a slice. -/
theorem open_rd {P : Program} {t e : TypeId} {α : Type} {ec : α → List Value} {sz : Nat} {good : α → Prop} (ht : P.underlying t = some (.slice e)) (hc : P.cellsOf e = sz) (hr : Reader P e ec good) (hs : 0 < sz) (hl : ∀ x, (ec x).length = sz)
    {H : Type} {enc : TypeId × Value → H} {W : World} {b0 : Nat} {r : Reach} {base : Nat} {spare : Nat → Bool} {held : Bool} {v : Value} {d : DataW H} {ps : List MemPlace} (hval : Value.okWide P W r b0 t v) (h : DataW.Trod enc P W base spare held t v d ps) :
    ∃ (A : Option Addr) (n c : Nat) (l : List α), v = .slice A n c ∧ Rd ec sz W A n c l ∧ ∀ x ∈ l, good x := by
  obtain ⟨a0, len, cap, rfl⟩ := okWide_slice ht hval
  obtain ⟨fuel, hf⟩ := h
  simp only [Value.cells] at hf
  rcases open_slice ht hf with ⟨h0, _⟩ | ⟨a, len', cap', m, n, D, Pl, hcs, _, hle, hcm, hmm, _, hi⟩
  · injection h0 with h0
    injection h0 with h1 h2 h3
    subst h1 h2 h3
    exact ⟨none, 0, 0, [], rfl, Rd.nil, fun x hx => by cases hx⟩
  · injection hcs with hcs
    injection hcs with h1 h2 h3
    subst h1 h2 h3
    have hlm : len ≤ m := by rw [hmm]; split <;> omega
    have hx : ∀ i, i < len → ∃ x : α, good x ∧ ∀ j u, (ec x)[j]? = some u → W.cell? (a.add (i * sz + j)) = some u := fun i hil => by
      obtain ⟨cs', hc', ht'⟩ := hi i (by omega)
      obtain ⟨_, _, hat⟩ := World.cells?_some hc'
      obtain ⟨x, rfl, hg⟩ := hr enc W base spare held n cs' _ ht'
      refine ⟨x, hg, fun j u hu => ?_⟩
      have hj : j < sz := by rw [← hl x]; exact (List.getElem?_eq_some_iff.1 hu).1
      have := hat j (by rw [hc]; exact hj)
      rw [hc, hu] at this
      rw [← this]
      unfold Addr.add
      by_cases e1 : i * sz = 0 <;> by_cases e2 : j = 0 <;> simp [e1, e2, Nat.add_assoc]
    obtain ⟨X, hX⟩ : ∃ X : Nat → Option α, ∀ i, i < len → ∃ x, X i = some x ∧ good x ∧ ∀ j u, (ec x)[j]? = some u → W.cell? (a.add (i * sz + j)) = some u := by
      refine ⟨fun i => if h : i < len then some (Classical.choose (hx i h)) else none, fun i h => ?_⟩
      exact ⟨Classical.choose (hx i h), by simp [h], (Classical.choose_spec (hx i h)).1, (Classical.choose_spec (hx i h)).2⟩
    have hall : ∀ k, k ≤ len → ((List.range k).filterMap X).length = k ∧ ∀ i, i < k → ((List.range k).filterMap X)[i]? = X i := by
      intro k
      induction k with
      | zero => intro _; exact ⟨rfl, fun i h => absurd h (by omega)⟩
      | succ k ih =>
        intro hk
        obtain ⟨h1, h2⟩ := ih (by omega)
        obtain ⟨x, hxk, _⟩ := hX k (by omega)
        have e : (List.range (k + 1)).filterMap X = (List.range k).filterMap X ++ [x] := by rw [List.range_succ, List.filterMap_append]; simp [hxk]
        rw [e]
        refine ⟨by simp [h1], fun i hi => ?_⟩
        by_cases hik : i = k
        · subst hik; rw [List.getElem?_append_right (by omega), h1]; simp [hxk]
        · rw [List.getElem?_append_left (by omega)]; exact h2 i (by omega)
    obtain ⟨h1, h2⟩ := hall len (Nat.le_refl _)
    refine ⟨some a, len, cap, (List.range len).filterMap X, rfl, ⟨h1, hle, hcm, (fun h => by cases h), fun hn => ?_⟩, fun x hx => ?_⟩
    · obtain ⟨x0, _, _, hc0⟩ := hX 0 hn
      have h00 := hc0 0 ((ec x0)[0]'(by rw [hl]; exact hs)) (List.getElem?_eq_getElem _)
      have hsp : a.spot = none := by
        cases hsp : a.spot with
        | none => rfl
        | some k =>
          exfalso
          simp only [Nat.zero_mul, Nat.add_zero, Addr.add, if_true] at h00
          unfold World.cell? at h00
          split at h00
          · simp [hsp] at h00
          · cases h00
      obtain ⟨ab, ao, as⟩ := a
      simp only at hsp
      subst hsp
      refine ⟨ab, ao, rfl, fun i x hix j u hu => ?_⟩
      have hi : i < len := by rw [← h1]; exact (List.getElem?_eq_some_iff.1 hix).1
      rw [h2 i hi] at hix
      obtain ⟨x', hx', _, hc'⟩ := hX i hi
      rw [hx'] at hix
      injection hix with hix
      subst hix
      have := hc' j u hu
      unfold Addr.add at this
      split at this
      · rename_i h0; rw [← this]; congr 2; omega
      · rw [← this]; congr 2; simp only; omega
    · obtain ⟨i, hi⟩ := List.mem_iff_getElem?.1 hx
      have hil : i < len := by rw [← h1]; exact (List.getElem?_eq_some_iff.1 hi).1
      rw [h2 i hil] at hi
      obtain ⟨x', hx', hg, _⟩ := hX i hil
      rw [hx'] at hi
      injection hi with hi
      subst hi
      exact hg

/-- An argument that is a struct by value. -/
theorem open_val {P : Program} {t : TypeId} {fs : Array Field} {α : Type} {ec : α → List Value} {good : α → Prop} (ht : P.underlying t = some (.struct fs)) (hr : Reader P t ec good)
    {H : Type} {enc : TypeId × Value → H} {W : World} {b0 : Nat} {r : Reach} {base : Nat} {spare : Nat → Bool} {held : Bool} {v : Value} {d : DataW H} {ps : List MemPlace} (hval : Value.okWide P W r b0 t v) (h : DataW.Trod enc P W base spare held t v d ps) :
    ∃ a : α, v = .agg (ec a).toArray ∧ good a := by
  obtain ⟨cs, rfl, _⟩ := okWide_struct ht hval
  obtain ⟨fuel, hf⟩ := h
  obtain ⟨a, ha, hg⟩ := hr enc W base spare held fuel _ _ hf
  have ha' : cs.toList = ec a := ha
  exact ⟨a, by rw [← ha'], hg⟩

end Go.Proofs.Ytndoapgalbljpaa
