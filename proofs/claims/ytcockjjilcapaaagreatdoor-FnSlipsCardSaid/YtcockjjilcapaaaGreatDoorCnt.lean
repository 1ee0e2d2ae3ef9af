/-
  YtcockjjilcapaaaGreatDoorCnt: texts counted: a list of texts and their numbers, in rising order; two ways to make it. No program in sight.
-/
import Derived.Test.YtcockjjilcapaaaGreatDoorBalF
namespace Go.Proofs.YtcockjjilcapaaaGreatDoor
open Go Go.RowKit Go.Sort
set_option linter.unusedVariables false

theorem bs_irr : ∀ a : List UInt8, Op.bytesLess a a = false
  | [] => rfl
  | x :: a => by
    have := bs_irr a
    simp [Op.bytesLess, this]
theorem bs_trans : ∀ a b c : List UInt8, Op.bytesLess a b = true → Op.bytesLess b c = true → Op.bytesLess a c = true
  | [], b, [], h1, h2 => by cases b <;> simp [Op.bytesLess] at h1 h2
  | [], _, z :: c, _, _ => rfl
  | x :: a, [], c, h1, _ => by simp [Op.bytesLess] at h1
  | x :: a, y :: b, [], _, h2 => by simp [Op.bytesLess] at h2
  | x :: a, y :: b, z :: c, h1, h2 => by
    simp only [Op.bytesLess, Bool.or_eq_true, Bool.and_eq_true, decide_eq_true_eq, beq_iff_eq, UInt8.lt_iff_toNat_lt] at h1 h2 ⊢
    rcases h1 with h1 | ⟨rfl, h1⟩
    · rcases h2 with h2 | ⟨rfl, h2⟩
      · exact .inl (by omega)
      · exact .inl h1
    · rcases h2 with h2 | ⟨rfl, h2⟩
      · exact .inl h2
      · exact .inr ⟨rfl, bs_trans a b c h1 h2⟩
theorem bs_tri : ∀ a b : List UInt8, Op.bytesLess a b = false → Op.bytesLess b a = false → a = b
  | [], [], _, _ => rfl
  | [], y :: b, h1, _ => by simp [Op.bytesLess] at h1
  | x :: a, [], _, h2 => by simp [Op.bytesLess] at h2
  | x :: a, y :: b, h1, h2 => by
    simp only [Op.bytesLess, Bool.or_eq_false_iff, Bool.and_eq_false_iff, decide_eq_false_iff_not, beq_eq_false_iff_ne, UInt8.lt_iff_toNat_lt] at h1 h2
    have e : x = y := UInt8.toNat_inj.1 (by omega)
    subst e
    rw [bs_tri a b (h1.2.resolve_left (fun h => h rfl)) (h2.2.resolve_left (fun h => h rfl))]
def bL (a b : ByteArray) : Bool := Op.bytesLess a.toList b.toList
theorem bL_irr (a : ByteArray) : bL a a = false := bs_irr _
theorem bL_trans {a b c : ByteArray} (h1 : bL a b = true) (h2 : bL b c = true) : bL a c = true := bs_trans _ _ _ h1 h2
theorem bL_tri {a b : ByteArray} (h1 : bL a b = false) (h2 : bL b a = false) : a = b := by
  have := bs_tri _ _ h1 h2
  rw [Lib.toList_data, Lib.toList_data] at this
  have e : a.data = b.data := Array.toList_inj.1 this
  cases a; cases b; simp at e; rw [e]
theorem bL_asym {a b : ByteArray} (h1 : bL a b = true) : bL b a = false := by
  cases h : bL b a
  · rfl
  · have := bL_trans h1 h; rw [bL_irr] at this; cases this
theorem str_eq {a b : ByteArray} (h : (a.toList == b.toList) = true) : a = b := by
  have h1 : a.toList = b.toList := by simpa using h
  rw [Lib.toList_data, Lib.toList_data] at h1
  have e : a.data = b.data := Array.toList_inj.1 h1
  cases a; cases b; simp at e; rw [e]
theorem str_ne {a b : ByteArray} (h : (a.toList == b.toList) = false) : a ≠ b := fun e => by rw [e] at h; simp at h
theorem bL_ne {a b : ByteArray} (h : bL a b = true) : a ≠ b := fun e => by rw [e, bL_irr] at h; cases h

theorem pair_ext {α : Type} {R : α → α → Prop} (hirr : ∀ x y, R x y → R y x → False) : ∀ {a b : List α}, a.Pairwise R → b.Pairwise R → (∀ x, x ∈ a ↔ x ∈ b) → a = b
  | [], [], _, _, _ => rfl
  | [], y :: t, _, _, h => absurd ((h y).2 (by simp)) (by simp)
  | x :: s, [], _, _, h => absurd ((h x).1 (by simp)) (by simp)
  | x :: s, y :: t, ha, hb, h => by
    rw [List.pairwise_cons] at ha hb
    have hxy : x = y := by
      rcases List.mem_cons.1 ((h x).1 (by simp)) with h1 | h1
      · exact h1
      · rcases List.mem_cons.1 ((h y).2 (by simp)) with h2 | h2
        · exact h2.symm
        · exact (hirr _ _ (hb.1 x h1) (ha.1 y h2)).elim
    subst hxy
    rw [pair_ext hirr ha.2 hb.2 (fun z => by
      have hz := h z
      constructor
      · intro hm
        rcases List.mem_cons.1 (hz.1 (List.mem_cons_of_mem _ hm)) with e | e
        · subst e; exact (hirr _ _ (ha.1 z hm) (ha.1 z hm)).elim
        · exact e
      · intro hm
        rcases List.mem_cons.1 (hz.2 (List.mem_cons_of_mem _ hm)) with e | e
        · subst e; exact (hirr _ _ (hb.1 z hm) (hb.1 z hm)).elim
        · exact e)]

abbrev PR := ByteArray × Int
def PL (p q : PR) : Prop := bL p.1 q.1 = true
/-- One text more. -/
def insC (c : ByteArray) : List PR → List PR
  | [] => [(c, 1)]
  | p :: t => if bL p.1 c then p :: insC c t else if p.1 = c then (p.1, p.2 + 1) :: t else (c, 1) :: p :: t
theorem insC_mem (c : ByteArray) : ∀ {ps : List PR}, ∀ q ∈ insC c ps, q.1 = c ∨ q ∈ ps
  | [], q, h => by simp [insC] at h; exact .inl (by rw [h])
  | p :: t, q, h => by
    unfold insC at h
    split at h
    · rcases List.mem_cons.1 h with e | e
      · exact .inr (by rw [e]; simp)
      · rcases insC_mem c q e with e | e
        · exact .inl e
        · exact .inr (List.mem_cons_of_mem _ e)
    · split at h
      · rename_i hp
        rcases List.mem_cons.1 h with e | e
        · exact .inl (by rw [e]; exact hp)
        · exact .inr (List.mem_cons_of_mem _ e)
      · rcases List.mem_cons.1 h with e | e
        · exact .inl (by rw [e])
        · exact .inr e
theorem insC_srt (c : ByteArray) : ∀ {ps : List PR}, ps.Pairwise PL → (insC c ps).Pairwise PL
  | [], _ => by simp [insC]
  | p :: t, h => by
    have h0 := h
    rw [List.pairwise_cons] at h
    unfold insC
    split
    · rename_i hp
      rw [List.pairwise_cons]
      refine ⟨fun q hq => ?_, insC_srt c h.2⟩
      rcases insC_mem c q hq with e | e
      · show bL p.1 q.1 = true; rw [e]; exact hp
      · exact h.1 q e
    · rename_i hp
      have hp' : bL p.1 c = false := by simpa using hp
      split
      · rename_i e
        rw [List.pairwise_cons]
        exact ⟨fun q hq => h.1 q hq, h.2⟩
      · rename_i e
        have hc : bL c p.1 = true := by
          cases hb : bL c p.1
          · exact absurd (bL_tri hp' hb) e
          · rfl
        rw [List.pairwise_cons]
        refine ⟨fun q hq => ?_, h0⟩
        rcases List.mem_cons.1 hq with e2 | e2
        · rw [e2]; exact hc
        · exact bL_trans hc (h.1 q e2)
/-- The number that a text has in a list. -/
def cof (s : ByteArray) : List PR → Int
  | [] => 0
  | p :: t => (if p.1 = s then p.2 else 0) + cof s t
theorem cof_cons (s : ByteArray) (p : PR) (t : List PR) : cof s (p :: t) = (if p.1 = s then p.2 else 0) + cof s t := rfl
theorem cof_zero {s : ByteArray} : ∀ {t : List PR}, (∀ x ∈ t, x.1 ≠ s) → cof s t = 0
  | [], _ => rfl
  | p :: t, h => by rw [cof_cons, if_neg (h p (by simp)), cof_zero (fun x hx => h x (by simp [hx]))]; rfl
theorem cof_ins (c s : ByteArray) : ∀ {ps : List PR}, ps.Pairwise PL → cof s (insC c ps) = cof s ps + if c = s then 1 else 0
  | [], _ => by simp [insC, cof]
  | p :: t, h => by
    rw [List.pairwise_cons] at h
    unfold insC
    split
    · rw [cof_cons, cof_cons, cof_ins c s h.2]; omega
    · split
      · rename_i e
        rw [cof_cons, cof_cons]
        simp only [e]
        split <;> omega
      · rw [cof_cons]; simp only; split <;> omega
theorem cof_mem {ps : List PR} (h : ps.Pairwise PL) {p : PR} (hp : p ∈ ps) : cof p.1 ps = p.2 := by
  induction ps with
  | nil => cases hp
  | cons q t ih =>
    rw [List.pairwise_cons] at h
    rw [cof_cons]
    rcases List.mem_cons.1 hp with e | e
    · subst e
      rw [if_pos rfl, cof_zero (fun x hx => (bL_ne (h.1 x hx)).symm)]; omega
    · rw [if_neg (bL_ne (h.1 p e)), ih h.2 e]; omega
theorem cof_pos {ps : List PR} {s : ByteArray} (h : cof s ps ≠ 0) : ∃ p ∈ ps, p.1 = s := by
  apply Classical.byContradiction
  intro hn
  apply h
  exact cof_zero (fun x hx e => hn ⟨x, hx, e⟩)
/-- The texts counted one after the other. -/
def cntStep (ps : List PR) (c : ByteArray) : List PR := if emp c then ps else insC c ps
def cntP (xs : List ByteArray) : List PR := xs.foldl cntStep []
theorem cntP_snoc (xs : List ByteArray) (c : ByteArray) : cntP (xs ++ [c]) = cntStep (cntP xs) c := by simp [cntP]
def numOf (xs : List ByteArray) (s : ByteArray) : Nat := (xs.filter (fun x => decide (x = s))).length
theorem cnt_fold : ∀ (xs : List ByteArray) (ps : List PR), ps.Pairwise PL → (∀ p ∈ ps, 0 < p.2 ∧ emp p.1 = false) →
    (xs.foldl cntStep ps).Pairwise PL ∧ (∀ p ∈ xs.foldl cntStep ps, 0 < p.2 ∧ emp p.1 = false) ∧ ∀ s, emp s = false → cof s (xs.foldl cntStep ps) = cof s ps + numOf xs s
  | [], ps, h, hp => ⟨h, hp, fun s _ => by simp [numOf]⟩
  | c :: xs, ps, h, hp => by
    rw [List.foldl_cons]
    by_cases hc : emp c = true
    · have e : cntStep ps c = ps := by simp [cntStep, hc]
      rw [e]
      obtain ⟨a1, a2, a3⟩ := cnt_fold xs ps h hp
      refine ⟨a1, a2, fun s hs => ?_⟩
      rw [a3 s hs]
      have : c ≠ s := fun e => by rw [e, hs] at hc; cases hc
      simp [numOf, this]
    · have e : cntStep ps c = insC c ps := by simp [cntStep, hc]
      rw [e]
      have hpos : ∀ p ∈ insC c ps, 0 < p.2 ∧ emp p.1 = false := by
        have key : ∀ (qs : List PR), (∀ p ∈ qs, 0 < p.2 ∧ emp p.1 = false) → ∀ p ∈ insC c qs, 0 < p.2 ∧ emp p.1 = false := by
          intro qs
          induction qs with
          | nil => intro _ p hp; simp [insC] at hp; rw [hp]; exact ⟨by simp, by simpa using hc⟩
          | cons q t ih =>
            intro hq p hp
            unfold insC at hp
            split at hp
            · rcases List.mem_cons.1 hp with e | e
              · rw [e]; exact hq q (by simp)
              · exact ih (fun x hx => hq x (by simp [hx])) p e
            · split at hp
              · rcases List.mem_cons.1 hp with e | e
                · have := hq q (by simp); rw [e]; exact ⟨by simp only; omega, this.2⟩
                · exact hq p (by simp [e])
              · rcases List.mem_cons.1 hp with e | e
                · rw [e]; exact ⟨by simp, by simpa using hc⟩
                · exact hq p e
        exact key ps hp
      obtain ⟨a1, a2, a3⟩ := cnt_fold xs (insC c ps) (insC_srt c h) hpos
      refine ⟨a1, a2, fun s hs => ?_⟩
      rw [a3 s hs, cof_ins c s h]
      unfold numOf
      rw [List.filter_cons]
      by_cases hcs : c = s
      · simp [hcs]; omega
      · simp [hcs]
theorem cnt_spec (xs : List ByteArray) : (cntP xs).Pairwise PL ∧ (∀ p ∈ cntP xs, 0 < p.2 ∧ emp p.1 = false) ∧ ∀ s, emp s = false → cof s (cntP xs) = numOf xs s := by
  have h := cnt_fold xs [] List.Pairwise.nil (fun p hp => by cases hp)
  refine ⟨h.1, h.2.1, fun s hs => ?_⟩
  have := h.2.2 s hs
  rw [show cntP xs = xs.foldl cntStep [] from rfl, this]
  simp [cof]
theorem cnt_mem (xs : List ByteArray) (p : PR) : p ∈ cntP xs ↔ emp p.1 = false ∧ 0 < p.2 ∧ p.2 = numOf xs p.1 := by
  obtain ⟨h1, h2, h3⟩ := cnt_spec xs
  constructor
  · intro hp
    have h4 := h2 p hp
    exact ⟨h4.2, h4.1, by rw [← h3 p.1 h4.2, cof_mem h1 hp]⟩
  · rintro ⟨h4, h5, h6⟩
    have h7 := h3 p.1 h4
    obtain ⟨q, hq, e⟩ := cof_pos (ps := cntP xs) (s := p.1) (by omega)
    have h8 := cof_mem h1 hq
    rw [e, h7, ← h6] at h8
    have : q = p := Prod.ext e h8.symm
    rw [← this]; exact hq
theorem cnt_perm {xs ys : List ByteArray} (h : xs.Perm ys) : cntP xs = cntP ys :=
  pair_ext (R := PL) (fun x y h1 h2 => by have := bL_asym (a := x.1) (b := y.1) h1; rw [show bL y.1 x.1 = true from h2] at this; cases this) (cnt_spec xs).1 (cnt_spec ys).1 (fun p => by
    rw [cnt_mem, cnt_mem]
    have : numOf xs p.1 = numOf ys p.1 := (h.filter _).length_eq
    rw [this])
theorem cnt_sort (xs : List ByteArray) : cntP (sortS xs) = cntP xs := cnt_perm (sortS_perm xs)
theorem insC_len (c : ByteArray) : ∀ ps : List PR, (insC c ps).length ≤ ps.length + 1
  | [] => by simp [insC]
  | p :: t => by
    unfold insC
    split
    · have := insC_len c t; simp only [List.length_cons]; omega
    · split <;> simp
theorem cntStep_len (ps : List PR) (c : ByteArray) : (cntStep ps c).length ≤ ps.length + 1 := by
  unfold cntStep; split
  · omega
  · exact insC_len c ps
theorem cnt_len (xs : List ByteArray) : (cntP xs).length ≤ xs.length := by
  have : ∀ (xs : List ByteArray) (ps : List PR), (xs.foldl cntStep ps).length ≤ ps.length + xs.length := by
    intro xs
    induction xs with
    | nil => intro ps; simp
    | cons c t ih => intro ps; rw [List.foldl_cons]; have := ih (cntStep ps c); have := cntStep_len ps c; simp only [List.length_cons]; omega
  have := this xs []
  simpa [cntP] using this
/-- Where insC puts a text. -/
theorem insC_at {c : ByteArray} : ∀ {ps : List PR} {k : Nat}, (∀ j p, j < k → ps[j]? = some p → bL p.1 c = true) → (∀ p, ps[k]? = some p → bL p.1 c = false) → k ≤ ps.length →
    insC c ps = match ps[k]? with | some p => if p.1 = c then ps.set k (p.1, p.2 + 1) else ps.take k ++ (c, 1) :: ps.drop k | none => ps.take k ++ (c, 1) :: ps.drop k
  | [], k, _, _, hk => by
    have : k = 0 := by simpa using hk
    subst this
    simp [insC]
  | p :: t, 0, _, h2, _ => by
    have h3 := h2 p (by simp)
    unfold insC
    rw [if_neg (by rw [h3]; simp)]
    simp
  | p :: t, k + 1, h1, h2, hk => by
    have h3 := h1 0 p (by omega) (by simp)
    unfold insC
    rw [if_pos h3, insC_at (ps := t) (k := k) (fun j q hj hq => h1 (j + 1) q (by omega) (by simpa using hq)) (fun q hq => h2 q (by simpa using hq)) (by simpa using hk)]
    simp only [List.getElem?_cons_succ]
    cases hq : t[k]? with
    | none => simp
    | some q => simp only; split <;> simp
theorem cnt_next {xs : List ByteArray} {k : Nat} {c : ByteArray} (h : xs[k]? = some c) : cntP (xs.take (k + 1)) = cntStep (cntP (xs.take k)) c := by
  rw [List.take_add_one, h]; exact cntP_snoc _ _
theorem numOf_pos {xs : List ByteArray} {s : ByteArray} (h : 0 < numOf xs s) : s ∈ xs := by
  unfold numOf at h
  cases hf : xs.filter (fun x => decide (x = s)) with
  | nil => rw [hf] at h; simp at h
  | cons y t =>
    have hy : y ∈ xs.filter (fun x => decide (x = s)) := by rw [hf]; simp
    rw [List.mem_filter] at hy
    have : y = s := by simpa using hy.2
    rw [← this]; exact hy.1
theorem cnt_from {xs : List ByteArray} {p : PR} (h : p ∈ cntP xs) : p.1 ∈ xs := by
  have := (cnt_mem xs p).1 h
  exact numOf_pos (by omega)
theorem bL_bl (a b : ByteArray) : bL a b = decide (bl a < bl b) := by
  unfold bL; rw [bytesLess_eq, Lib.toList_data, Lib.toList_data]; rfl
/-- The texts of a sorted list do not fall. -/
theorem sortS_le (xs : List ByteArray) {j k : Nat} {a b : ByteArray} (hjk : j ≤ k) (ha : (sortS xs)[j]? = some a) (hb : (sortS xs)[k]? = some b) : bL b a = false := by
  have hs : ((xs.map bl).mergeSort fun x y => decide (x ≤ y)).Pairwise (fun x y => decide (x ≤ y) = true) := List.pairwise_mergeSort (by intro a b c h1 h2; simp at h1 h2 ⊢; exact List.le_trans h1 h2) (by intro a b; simp; exact List.le_total a b) _
  rw [← sortS_bl] at hs
  have hj := (List.getElem?_eq_some_iff.1 ha)
  have hk := (List.getElem?_eq_some_iff.1 hb)
  by_cases e : j = k
  · subst e
    rw [ha] at hb
    injection hb with hb
    rw [hb]; exact bL_irr _
  · have := List.pairwise_iff_getElem.1 hs j k (by simpa using hj.1) (by simpa using hk.1) (by omega)
    simp only [List.getElem_map, decide_eq_true_eq] at this
    rw [hj.2, hk.2] at this
    rw [bL_bl]
    simpa [List.not_lt] using this

end Go.Proofs.YtcockjjilcapaaaGreatDoor
