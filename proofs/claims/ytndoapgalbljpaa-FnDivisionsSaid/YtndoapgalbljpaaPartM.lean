/-
  YtndoapgalbljpaaPartM: the parts of a list of clauses: two ways to mark the parts lead to the same marks. No program in sight.
-/
import Derived.Test.YtndoapgalbljpaaDivM
namespace Go.Proofs.Ytndoapgalbljpaa
open Go Go.RowKit Go.Sort
set_option linter.unusedVariables false

/-- All edges: a clause and one that it needs. -/
def edN (l : List CL) (i : Nat) : List (Nat × Nat) := (nd l i).map (fun y => (i, y.toNat))
def edTo (l : List CL) (k : Nat) : List (Nat × Nat) := (List.range k).flatMap (edN l)
theorem edTo_succ (l : List CL) (k : Nat) : edTo l (k + 1) = edTo l k ++ edN l k := by simp [edTo, List.range_succ]
theorem ed_bd {l : List CL} (hv : clsB l = true) {k : Nat} {e : Nat × Nat} (h : e ∈ edTo l k) : e.1 < l.length ∧ e.2 < e.1 := by
  unfold edTo edN at h
  rw [List.mem_flatMap] at h
  obtain ⟨i, _, h⟩ := h
  rw [List.mem_map] at h
  obtain ⟨y, hy, rfl⟩ := h
  have := nd_bd hv hy
  exact ⟨this.2.2, by simp only; omega⟩
inductive Conn (E : List (Nat × Nat)) (a : Nat) : Nat → Prop
  | refl : Conn E a a
  | fwd {b c : Nat} (h : Conn E a b) (e : (b, c) ∈ E) : Conn E a c
  | bwd {b c : Nat} (h : Conn E a b) (e : (c, b) ∈ E) : Conn E a c
theorem Conn.trans {E : List (Nat × Nat)} {a b c : Nat} (h : Conn E a b) (k : Conn E b c) : Conn E a c := by
  induction k with
  | refl => exact h
  | fwd _ e ih => exact ih.fwd e
  | bwd _ e ih => exact ih.bwd e
theorem Conn.symm {E : List (Nat × Nat)} {a b : Nat} (h : Conn E a b) : Conn E b a := by
  induction h with
  | refl => exact .refl
  | fwd _ e ih => exact (Conn.bwd .refl e).trans ih
  | bwd _ e ih => exact (Conn.fwd .refl e).trans ih
theorem Conn.mono {E E' : List (Nat × Nat)} (hE : ∀ e ∈ E, e ∈ E') {a b : Nat} (h : Conn E a b) : Conn E' a b := by
  induction h with
  | refl => exact .refl
  | fwd _ e ih => exact ih.fwd (hE _ e)
  | bwd _ e ih => exact ih.bwd (hE _ e)
theorem Conn.lt {E : List (Nat × Nat)} {n : Nat} (hE : ∀ e ∈ E, e.1 < n ∧ e.2 < n) {a b : Nat} (h : Conn E a b) (ha : a < n) : b < n := by
  induction h with
  | refl => exact ha
  | fwd _ e _ => exact (hE _ e).2
  | bwd _ e _ => exact (hE _ e).1
/-- Marks that hold for the parts made by the edges E. -/
structure Marks (E : List (Nat × Nat)) (n : Nat) (F : List Int) : Prop where
  len : F.length = n
  conn : ∀ a, a < n → 0 ≤ F.getD a 0 ∧ Conn E a (F.getD a 0).toNat
  le : ∀ a, a < n → F.getD a 0 ≤ a
structure Fixed (E : List (Nat × Nat)) (n : Nat) (F : List Int) : Prop extends Marks E n F where
  edge : ∀ e ∈ E, F.getD e.1 0 = F.getD e.2 0
theorem Fixed.const {E : List (Nat × Nat)} {n : Nat} {F : List Int} (h : Fixed E n F) {a b : Nat} (hc : Conn E a b) : F.getD a 0 = F.getD b 0 := by
  induction hc with
  | refl => rfl
  | fwd _ e ih => rw [ih]; exact h.edge _ e
  | bwd _ e ih => rw [ih]; exact (h.edge _ e).symm
theorem Fixed.below {E : List (Nat × Nat)} {n : Nat} {F G : List Int} (hE : ∀ e ∈ E, e.1 < n ∧ e.2 < n) (h : Fixed E n F) (g : Marks E n G) {a : Nat} (ha : a < n) : F.getD a 0 ≤ G.getD a 0 := by
  obtain ⟨h0, hc⟩ := g.conn a ha
  rw [h.const hc]
  have := h.le _ (hc.lt hE ha)
  omega
theorem list_ext_getD {F G : List Int} (h : F.length = G.length) (h2 : ∀ a, a < F.length → F.getD a 0 = G.getD a 0) : F = G := by
  apply List.ext_getElem h
  intro i h3 h4
  have := h2 i h3
  simpa [List.getD, List.getElem?_eq_getElem h3, List.getElem?_eq_getElem h4] using this
theorem Fixed.uniq {E : List (Nat × Nat)} {n : Nat} {F G : List Int} (hE : ∀ e ∈ E, e.1 < n ∧ e.2 < n) (h : Fixed E n F) (g : Fixed E n G) : F = G :=
  list_ext_getD (h.len.trans g.len.symm) fun a ha => Int.le_antisymm (h.below hE g.toMarks (by rw [← h.len]; exact ha)) (g.below hE h.toMarks (by rw [← h.len]; exact ha))
def idM (n : Nat) : List Int := (List.range n).map (fun (i : Nat) => (i : Int))
theorem idM_get {n a : Nat} (h : a < n) : (idM n).getD a 0 = a := by simp [idM, List.getD, h]
theorem idM_len (n : Nat) : (idM n).length = n := by simp [idM]
theorem marks_id (E : List (Nat × Nat)) (n : Nat) : Marks E n (idM n) := ⟨idM_len n, fun a h => by rw [idM_get h]; exact ⟨by omega, by simpa using Conn.refl⟩, fun a h => by rw [idM_get h]; exact Int.le_refl _⟩
theorem fixed_id (n : Nat) : Fixed [] n (idM n) := ⟨marks_id [] n, fun e h => by cases h⟩

/-! ### the program's way: one edge after the other, all marks of a value turned -/
def turnM (F : List Int) (hi lo : Int) : List Int := F.map (fun x => if x = hi then lo else x)
theorem turnM_get {F : List Int} {hi lo : Int} {a : Nat} (h : a < F.length) : (turnM F hi lo).getD a 0 = if F.getD a 0 = hi then lo else F.getD a 0 := by
  simp [turnM, List.getD, List.getElem?_eq_getElem h]
def joinM (F : List Int) (e : Nat × Nat) : List Int := turnM F (max (F.getD e.1 0) (F.getD e.2 0)) (min (F.getD e.1 0) (F.getD e.2 0))
theorem joinM_len (F : List Int) (e : Nat × Nat) : (joinM F e).length = F.length := by simp [joinM, turnM]
theorem Fixed.join {E : List (Nat × Nat)} {n : Nat} {F : List Int} (hE : ∀ e ∈ E, e.1 < n ∧ e.2 < n) (h : Fixed E n F) {e : Nat × Nat} (h1 : e.1 < n) (h2 : e.2 < n) : Fixed (E ++ [e]) n (joinM F e) := by
  obtain ⟨i, j⟩ := e
  simp only at h1 h2
  have hm : ∀ a b, Conn E a b → Conn (E ++ [(i, j)]) a b := fun a b hc => hc.mono (fun e he => List.mem_append_left _ he)
  have eij : Conn (E ++ [(i, j)]) i j := Conn.fwd .refl (by simp)
  have g : ∀ a, a < n → (joinM F (i, j)).getD a 0 = if F.getD a 0 = max (F.getD i 0) (F.getD j 0) then min (F.getD i 0) (F.getD j 0) else F.getD a 0 := fun a ha => turnM_get (by rw [h.len]; exact ha)
  have ci := h.conn i h1
  have cj := h.conn j h2
  refine ⟨⟨by rw [joinM_len]; exact h.len, fun a ha => ?_, fun a ha => ?_⟩, fun e he => ?_⟩
  · rw [g a ha]
    have ca := h.conn a ha
    split
    · rename_i hq
      rcases Int.le_total (F.getD i 0) (F.getD j 0) with hl | hl
      · rw [Int.max_eq_right hl] at hq
        rw [Int.min_eq_left hl]
        refine ⟨ci.1, ?_⟩
        have c1 := hm _ _ ca.2
        rw [hq] at c1
        exact c1.trans ((hm _ _ cj.2).symm.trans (eij.symm.trans (hm _ _ ci.2)))
      · rw [Int.max_eq_left hl] at hq
        rw [Int.min_eq_right hl]
        refine ⟨cj.1, ?_⟩
        have c1 := hm _ _ ca.2
        rw [hq] at c1
        exact c1.trans ((hm _ _ ci.2).symm.trans (eij.trans (hm _ _ cj.2)))
    · exact ⟨ca.1, hm _ _ ca.2⟩
  · rw [g a ha]
    have := h.le a ha
    split
    · rename_i hq; omega
    · exact this
  · rcases List.mem_append.1 he with he | he
    · have hb := h.edge e he
      have hr := hE e he
      rw [g _ hr.1, g _ hr.2, hb]
    · simp at he
      subst he
      simp only
      rw [g i h1, g j h2]
      split <;> split <;> omega

theorem fixed_fold {n : Nat} : ∀ (es E : List (Nat × Nat)) (F : List Int), (∀ e ∈ E ++ es, e.1 < n ∧ e.2 < n) → Fixed E n F → Fixed (E ++ es) n (es.foldl joinM F)
  | [], E, F, _, h => by simpa using h
  | e :: es, E, F, hb, h => by
    have h1 := fixed_fold es (E ++ [e]) (joinM F e) (by simpa using hb) (h.join (fun x hx => hb x (List.mem_append_left _ hx)) (hb e (by simp)).1 (hb e (by simp)).2)
    simpa using h1

/-! ### the reference's way: sweeps over all edges, each gives its two ends the lesser mark -/
def leastM (G : List Int) (e : Nat × Nat) : List Int := (G.set e.1 (min (G.getD e.1 0) (G.getD e.2 0))).set e.2 (min (G.getD e.1 0) (G.getD e.2 0))
theorem leastM_len (G : List Int) (e : Nat × Nat) : (leastM G e).length = G.length := by simp [leastM]
theorem leastM_get {G : List Int} {e : Nat × Nat} {a : Nat} (h1 : e.1 < G.length) (h2 : e.2 < G.length) : (leastM G e).getD a 0 = if a = e.1 ∨ a = e.2 then min (G.getD e.1 0) (G.getD e.2 0) else G.getD a 0 := by
  unfold leastM
  simp only [List.getD]
  by_cases ha : a = e.2
  · subst ha; rw [if_pos (.inr rfl), List.getElem?_set_self (by simpa using h2)]; rfl
  · rw [List.getElem?_set_ne (fun h => ha h.symm)]
    by_cases hb : a = e.1
    · subst hb; rw [if_pos (.inl rfl), List.getElem?_set_self h1]; rfl
    · rw [List.getElem?_set_ne (fun h => hb h.symm), if_neg (by simp [ha, hb])]
theorem Marks.least {E : List (Nat × Nat)} {n : Nat} {G : List Int} (h : Marks E n G) {e : Nat × Nat} (he : e ∈ E) (h1 : e.1 < n) (h2 : e.2 < n) : Marks E n (leastM G e) := by
  have g : ∀ a, (leastM G e).getD a 0 = if a = e.1 ∨ a = e.2 then min (G.getD e.1 0) (G.getD e.2 0) else G.getD a 0 := fun a => leastM_get (by rw [h.len]; exact h1) (by rw [h.len]; exact h2)
  have c1 := h.conn _ h1
  have c2 := h.conn _ h2
  have l1 := h.le _ h1
  have l2 := h.le _ h2
  have e12 : Conn E e.1 e.2 := Conn.fwd .refl he
  have key : ∀ a, a = e.1 ∨ a = e.2 → 0 ≤ min (G.getD e.1 0) (G.getD e.2 0) ∧ Conn E a (min (G.getD e.1 0) (G.getD e.2 0)).toNat := by
    intro a ha
    have h3 : Conn E a e.1 ∧ Conn E a e.2 := by exact ha.elim (fun q => by subst q; exact ⟨.refl, e12⟩) (fun q => by subst q; exact ⟨e12.symm, .refl⟩)
    rcases Int.le_total (G.getD e.1 0) (G.getD e.2 0) with hl | hl
    · rw [Int.min_eq_left hl]; exact ⟨c1.1, h3.1.trans c1.2⟩
    · rw [Int.min_eq_right hl]; exact ⟨c2.1, h3.2.trans c2.2⟩
  refine ⟨by rw [leastM_len]; exact h.len, fun a ha => ?_, fun a ha => ?_⟩
  · rw [g]; split
    · rename_i hq; exact key a hq
    · exact h.conn a ha
  · rw [g]; have := h.le a ha; split
    · rename_i hq; rcases hq with rfl | rfl <;> omega
    · exact this
theorem least_le {n : Nat} {G : List Int} (hl : G.length = n) {e : Nat × Nat} (h1 : e.1 < n) (h2 : e.2 < n) (a : Nat) : (leastM G e).getD a 0 ≤ G.getD a 0 := by
  rw [leastM_get (by omega) (by omega)]
  split
  · rename_i hq; rcases hq with rfl | rfl <;> omega
  · exact Int.le_refl _
theorem sweep_le {n : Nat} : ∀ (es : List (Nat × Nat)) (G : List Int), G.length = n → (∀ e ∈ es, e.1 < n ∧ e.2 < n) → (es.foldl leastM G).length = n ∧ ∀ a, (es.foldl leastM G).getD a 0 ≤ G.getD a 0
  | [], G, hl, _ => ⟨hl, fun a => Int.le_refl _⟩
  | e :: es, G, hl, hb => by
    have h := sweep_le es (leastM G e) (by rw [leastM_len]; exact hl) (fun x hx => hb x (by simp [hx]))
    exact ⟨h.1, fun a => Int.le_trans (h.2 a) (least_le hl (hb e (by simp)).1 (hb e (by simp)).2 a)⟩
theorem sweep_edge {n : Nat} : ∀ (es : List (Nat × Nat)) (G : List Int), G.length = n → (∀ e ∈ es, e.1 < n ∧ e.2 < n) → ∀ u v, ((u, v) ∈ es ∨ (v, u) ∈ es) → (es.foldl leastM G).getD v 0 ≤ G.getD u 0
  | [], G, _, _, u, v, h => by simp at h
  | e :: es, G, hl, hb, u, v, h => by
    have h1 := (hb e (by simp)).1
    have h2 := (hb e (by simp)).2
    have hs := sweep_le es (leastM G e) (by rw [leastM_len]; exact hl) (fun x hx => hb x (by simp [hx]))
    by_cases hq : e = (u, v) ∨ e = (v, u)
    · refine Int.le_trans (hs.2 v) ?_
      rw [leastM_get (by omega) (by omega)]
      rcases hq with rfl | rfl
      · rw [if_pos (.inr rfl)]; simp only; omega
      · rw [if_pos (.inl rfl)]; simp only; omega
    · have h3 : (u, v) ∈ es ∨ (v, u) ∈ es := by
        rcases h with h | h
        · rcases List.mem_cons.1 h with h | h
          · exact absurd (.inl h.symm) hq
          · exact .inl h
        · rcases List.mem_cons.1 h with h | h
          · exact absurd (.inr h.symm) hq
          · exact .inr h
      exact Int.le_trans (sweep_edge es (leastM G e) (by rw [leastM_len]; exact hl) (fun x hx => hb x (by simp [hx])) u v h3) (least_le hl h1 h2 u)
theorem sweep_marks {E : List (Nat × Nat)} {n : Nat} (hE : ∀ e ∈ E, e.1 < n ∧ e.2 < n) : ∀ (es : List (Nat × Nat)) (G : List Int), (∀ e ∈ es, e ∈ E) → Marks E n G → Marks E n (es.foldl leastM G)
  | [], G, _, h => h
  | e :: es, G, hs, h => sweep_marks hE es _ (fun x hx => hs x (by simp [hx])) (h.least (hs e (by simp)) (hE e (hs e (by simp))).1 (hE e (hs e (by simp))).2)
def sweepN (E : List (Nat × Nat)) (n : Nat) : Nat → List Int
  | 0 => idM n
  | t + 1 => E.foldl leastM (sweepN E n t)
theorem crossing {E : List (Nat × Nat)} {p : Nat → Prop} {a b : Nat} (h : Conn E a b) (ha : p a) (hb : ¬ p b) : ∃ u v, ((u, v) ∈ E ∨ (v, u) ∈ E) ∧ Conn E a u ∧ p u ∧ ¬ p v := by
  induction h with
  | refl => exact absurd ha hb
  | @fwd x y hx e ih =>
    by_cases hp : p x
    · exact ⟨x, y, .inl e, hx, hp, hb⟩
    · exact ih hp
  | @bwd x y hx e ih =>
    by_cases hp : p x
    · exact ⟨x, y, .inr e, hx, hp, hb⟩
    · exact ih hp
theorem count_lt {p q : Nat → Bool} {n v : Nat} (hv : v < n) (h : ∀ a, a < n → p a = true → q a = true) (h1 : p v = false) (h2 : q v = true) : ((List.range n).filter p).length < ((List.range n).filter q).length := by
  induction n with
  | zero => omega
  | succ n ih =>
    rw [List.range_succ, List.filter_append, List.filter_append, List.length_append, List.length_append]
    have mono : ∀ m, m ≤ n → ((List.range m).filter p).length ≤ ((List.range m).filter q).length := by
      intro m
      induction m with
      | zero => intro _; exact Nat.le_refl _
      | succ m ihm =>
        intro hm
        rw [List.range_succ, List.filter_append, List.filter_append, List.length_append, List.length_append]
        have := ihm (by omega)
        have hpm := h m (by omega)
        cases hp : p m
        · simp [hp]; omega
        · simp [hp, hpm hp]; omega
    have hpn := h n (by omega)
    by_cases e : v = n
    · subst e
      have := mono v (Nat.le_refl _)
      simp [h1, h2]; omega
    · have := ih (by omega) (fun a ha => h a (by omega))
      cases hp : p n
      · simp [hp]; omega
      · simp [hp, hpn hp]; omega
theorem sweep_done {E : List (Nat × Nat)} {n : Nat} {F : List Int} (hE : ∀ e ∈ E, e.1 < n ∧ e.2 < n) (hF : Fixed E n F) : sweepN E n n = F := by
  have hM : ∀ t, Marks E n (sweepN E n t) := fun t => by
    induction t with
    | zero => exact marks_id E n
    | succ t ih => exact sweep_marks hE E _ (fun e h => h) ih
  let p : Nat → Nat → Bool := fun t a => (sweepN E n t).getD a 0 == F.getD a 0
  have hle : ∀ t a, a < n → p t a = true → p (t + 1) a = true := fun t a ha h => by
    have h1 : (sweepN E n t).getD a 0 = F.getD a 0 := by simpa [p] using h
    have h2 := (sweep_le E (sweepN E n t) (hM t).len hE).2 a
    have h3 := hF.below hE (hM (t + 1)) ha
    have : (sweepN E n (t + 1)).getD a 0 = F.getD a 0 := by
      have : (sweepN E n (t + 1)).getD a 0 ≤ (sweepN E n t).getD a 0 := h2
      omega
    simpa [p] using this
  have step : ∀ t v, v < n → p t v = false → ((List.range n).filter (p t)).length < ((List.range n).filter (p (t + 1))).length := fun t v hv h => by
    have hr := hF.conn v hv
    have hrn : (F.getD v 0).toNat < n := hr.2.lt hE hv
    have e1 : F.getD (F.getD v 0).toNat 0 = F.getD v 0 := (hF.const hr.2).symm
    have hpr : (sweepN E n t).getD (F.getD v 0).toNat 0 = F.getD (F.getD v 0).toNat 0 := by
      have h1 := (hM t).le _ hrn
      have h2 := hF.below hE (hM t) hrn
      omega
    obtain ⟨x, y, hxy, hcx, hx, hy⟩ := crossing (p := fun a => (sweepN E n t).getD a 0 = F.getD a 0) hr.2.symm hpr (by simpa [p] using h)
    have hyn : y < n := hxy.elim (fun e => (hE _ e).2) (fun e => (hE _ e).1)
    have hxn : x < n := hxy.elim (fun e => (hE _ e).1) (fun e => (hE _ e).2)
    have hFxy : F.getD x 0 = F.getD y 0 := hxy.elim (fun e => hF.edge _ e) (fun e => (hF.edge _ e).symm)
    refine count_lt hyn (fun a ha hp => hle t a ha hp) (v := y) (by simpa [p] using hy) ?_
    have h1 := sweep_edge E (sweepN E n t) (hM t).len hE x y hxy
    have h2 := hF.below hE (hM (t + 1)) hyn
    have h3 : (sweepN E n (t + 1)).getD y 0 ≤ (sweepN E n t).getD x 0 := h1
    have : (sweepN E n (t + 1)).getD y 0 = F.getD y 0 := by omega
    simpa [p] using this
  have cnt : ∀ t, (∀ a, a < n → p t a = true) ∨ t ≤ ((List.range n).filter (p t)).length := fun t => by
    induction t with
    | zero => exact .inr (Nat.zero_le _)
    | succ t ih =>
      by_cases hall : ∀ a, a < n → p t a = true
      · exact .inl fun a ha => hle t a ha (hall a ha)
      · have : ∃ v, v < n ∧ p t v = false := by
          apply Classical.byContradiction
          intro hn
          apply hall
          intro a ha
          cases hp : p t a
          · exact absurd ⟨a, ha, hp⟩ hn
          · rfl
        obtain ⟨v, hv, hp⟩ := this
        have := step t v hv hp
        rcases ih with ih | ih
        · rw [ih v hv] at hp; cases hp
        · exact .inr (by omega)
  have fin : ∀ a, a < n → p n a = true := by
    rcases cnt n with h | h
    · exact h
    · have hl : ((List.range n).filter (p n)).length ≤ (List.range n).length := List.length_filter_le _ _
      have he : (List.range n).filter (p n) = List.range n := (List.filter_sublist).eq_of_length (by simp at hl ⊢; omega)
      intro a ha
      exact (List.filter_eq_self.1 he) a (List.mem_range.2 ha)
  exact list_ext_getD ((hM n).len.trans hF.len.symm) fun a ha => by
    have := fin a (by rw [← (hM n).len]; exact ha)
    simpa [p] using this
/-- The marks of the parts. -/
def prtM (l : List CL) : List Int := (edTo l l.length).foldl joinM (idM l.length)
theorem prt_sweep {l : List CL} (hv : clsB l = true) : sweepN (edTo l l.length) l.length l.length = prtM l := by
  have hE : ∀ e ∈ edTo l l.length, e.1 < l.length ∧ e.2 < l.length := fun e he => by have := ed_bd hv he; omega
  exact sweep_done hE (by have := fixed_fold (edTo l l.length) [] (idM l.length) (by simpa using hE) (fixed_id l.length); simpa [prtM] using this)

end Go.Proofs.Ytndoapgalbljpaa
