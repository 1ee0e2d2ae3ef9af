/-
  YtndoapgalbljpaaCloM: the closure of wanted clauses: the plain mathematics of both ways to find it. No program in sight.
-/
import Derived.Test.YtndoapgalbljpaaDepM
namespace Go.Proofs.Ytndoapgalbljpaa
open Go Go.RowKit Go.Sort
set_option linter.unusedVariables false

theorem chP_congr {n : Nat} {p q : Nat → Bool} (h : ∀ m, m < n → p m = q m) : chP n p = chP n q := by
  unfold chP
  congr 1
  exact List.map_congr_left (fun m hm => h m (List.mem_range.1 hm))
theorem putZ_chP {n : Nat} {p : Nat → Bool} {y : Int} (h0 : 0 ≤ y) (h1 : y < n) : putZ y (chP n p) = chP n (fun m => p m || decide ((m : Int) = y)) := by
  refine rise_ext (rise_putZ y (rise_chP n p)) (rise_chP n _) (fun z => ?_)
  rw [mem_putZ, mem_chP, mem_chP, Bool.or_eq_true, decide_eq_true_eq]
  constructor
  · rintro (rfl | ⟨a, b, c⟩)
    · exact ⟨h0, h1, .inr (by omega)⟩
    · exact ⟨a, b, .inl c⟩
  · rintro ⟨a, b, c | c⟩
    · exact .inr ⟨a, b, c⟩
    · exact .inl (by omega)
theorem ris_chP {ws : List Int} {n : Nat} (h : risB ws 0 ((n : Int) - 1) = true) : chP n (fun m => ws.contains (m : Int)) = ws := by
  obtain ⟨h1, h2⟩ := ris_spec.1 h
  refine rise_ext (rise_chP n _) h1 (fun z => ?_)
  rw [mem_chP, List.contains_iff_mem]
  constructor
  · rintro ⟨a, b, c⟩
    rwa [show ((z.toNat : Nat) : Int) = z by omega] at c
  · intro hz
    have := h2 z hz
    exact ⟨this.1, by omega, by rwa [show ((z.toNat : Nat) : Int) = z by omega]⟩
/-- Whether a clause is wanted or one of the wanted depends on it. -/
noncomputable def cloB (l : List CL) (ws : List Int) (m : Nat) : Bool := ws.any (fun y => decide (y = (m : Int)) || depB l y.toNat m)
noncomputable def cloL (l : List CL) (ws : List Int) : List Int := chP l.length (cloB l ws)
theorem cloB_iff {l : List CL} {ws : List Int} {m : Nat} (hw : ∀ y ∈ ws, 0 ≤ y) : cloB l ws m = true ↔ ∃ v : Nat, (v : Int) ∈ ws ∧ (v = m ∨ Dep l v m) := by
  unfold cloB
  rw [List.any_eq_true]
  constructor
  · rintro ⟨y, hy, h⟩
    obtain ⟨v, rfl⟩ := Int.eq_ofNat_of_zero_le (hw y hy)
    rw [Bool.or_eq_true, decide_eq_true_eq, Int.toNat_natCast, depB_iff] at h
    exact ⟨v, hy, h.imp (fun e => by omega) id⟩
  · rintro ⟨v, hv, h⟩
    refine ⟨_, hv, ?_⟩
    rw [Bool.or_eq_true, decide_eq_true_eq, Int.toNat_natCast, depB_iff]
    exact h.imp (fun e => by omega) id
theorem cloB_next {l : List CL} {ws : List Int} {k m : Nat} {y : Int} (h : ws[k]? = some y) : cloB l (ws.take (k + 1)) m = (cloB l (ws.take k) m || (decide (y = (m : Int)) || depB l y.toNat m)) := by
  unfold cloB; rw [List.take_add_one, h, List.any_append]; simp

/-! ### the program's marks -/
/-- The marks, of which the first t have been joined with what the clause y depends on. -/
noncomputable def orT (l : List CL) (ws : List Int) (k : Nat) (y : Int) (t : Nat) : List Bool := (List.range l.length).map (fun m => (cloB l (ws.take k) m || decide (y = (m : Int))) || (decide (m < t) && depB l y.toNat m))
noncomputable def cloT (l : List CL) (ws : List Int) (k : Nat) : List Bool := (List.range l.length).map (cloB l (ws.take k))
theorem map_get {n : Nat} {f : Nat → Bool} {t : Nat} (h : t < n) : ((List.range n).map f)[t]? = some (f t) := by rw [List.getElem?_map, List.getElem?_range h]; rfl
theorem map_set {n : Nat} {f g : Nat → Bool} {t : Nat} (h : ∀ m, m ≠ t → f m = g m) : ((List.range n).map f).set t (g t) = (List.range n).map g := by
  apply List.ext_getElem?
  intro m
  by_cases hm : m < n
  · by_cases e : t = m
    · subst e; rw [List.getElem?_set_self (by simpa using hm), map_get hm]
    · rw [List.getElem?_set_ne e, map_get hm, map_get hm, h m (fun a => e a.symm)]
  · rw [List.getElem?_eq_none (by simp; omega), List.getElem?_eq_none (by simp; omega)]
theorem orT_start {l : List CL} {ws : List Int} {k : Nat} {v : Nat} : (cloT l ws k).set v true = orT l ws k (v : Int) 0 := by
  have := map_set (n := l.length) (f := cloB l (ws.take k)) (g := fun m => (cloB l (ws.take k) m || decide ((v : Int) = (m : Int))) || (decide (m < 0) && depB l (v : Int).toNat m)) (t := v) (fun m hm => by simp; omega)
  simp only [decide_true, Bool.or_true, Bool.true_or] at this
  exact this
theorem orT_next {l : List CL} {ws : List Int} {k : Nat} {y : Int} {t : Nat} : (orT l ws k y t).set t ((cloB l (ws.take k) t || decide (y = (t : Int))) || depB l y.toNat t) = orT l ws k y (t + 1) := by
  have := map_set (n := l.length) (f := fun m => (cloB l (ws.take k) m || decide (y = (m : Int))) || (decide (m < t) && depB l y.toNat m)) (g := fun m => (cloB l (ws.take k) m || decide (y = (m : Int))) || (decide (m < t + 1) && depB l y.toNat m)) (t := t) (fun m hm => by
    rcases Nat.lt_or_ge m t with h | h
    · simp [h, show m < t + 1 by omega]
    · simp [show ¬ m < t by omega, show ¬ m < t + 1 by omega])
  simp only [Nat.lt_succ_self, decide_true, Bool.true_and] at this
  exact this
theorem orT_get {l : List CL} {ws : List Int} {k : Nat} {y : Int} {t : Nat} (h : t < l.length) : (orT l ws k y t)[t]? = some (cloB l (ws.take k) t || decide (y = (t : Int))) := by
  unfold orT; rw [map_get h]; simp
theorem orT_end {l : List CL} {ws : List Int} {k : Nat} {y : Int} (h : ws[k]? = some y) : orT l ws k y l.length = cloT l ws (k + 1) := by
  unfold orT cloT
  apply List.map_congr_left
  intro m hm
  rw [cloB_next h, decide_eq_true (List.mem_range.1 hm), Bool.true_and, Bool.or_assoc]
theorem cloT_start (l : List CL) (ws : List Int) : cloT l ws 0 = List.replicate l.length false := by
  apply List.ext_getElem?
  intro m
  unfold cloT cloB
  by_cases h : m < l.length
  · rw [map_get h]; simp [h]
  · rw [List.getElem?_eq_none (by simp; omega), List.getElem?_eq_none (by simp; omega)]
theorem cloT_end {l : List CL} {ws : List Int} {q : Nat} (h : ws.length = q) : chs (cloT l ws q) = cloL l ws := by
  unfold cloT cloL chP
  rw [List.take_of_length_le (by omega)]
theorem cloT_len (l : List CL) (ws : List Int) (k : Nat) : (cloT l ws k).length = l.length := by simp [cloT]
theorem orT_len (l : List CL) (ws : List Int) (k : Nat) (y : Int) (t : Nat) : (orT l ws k y t).length = l.length := by simp [orT]

/-! ### the reference's list -/
open Classical in
/-- What is in the list when the clauses from p on have been looked at. -/
noncomputable def froB (l : List CL) (ws : List Int) (p m : Nat) : Bool := ws.contains (m : Int) || decide (∃ s, p ≤ s ∧ cloB l ws s = true ∧ (m : Int) ∈ nd l s)
open Classical in
theorem froB_iff {l : List CL} {ws : List Int} {p m : Nat} : froB l ws p m = true ↔ (m : Int) ∈ ws ∨ ∃ s, p ≤ s ∧ cloB l ws s = true ∧ (m : Int) ∈ nd l s := by
  unfold froB; rw [Bool.or_eq_true, List.contains_iff_mem, decide_eq_true_eq]
theorem clo_step {l : List CL} {ws : List Int} (hw : ∀ y ∈ ws, 0 ≤ y) {s m : Nat} (h : cloB l ws s = true) (hm : (m : Int) ∈ nd l s) : cloB l ws m = true := by
  obtain ⟨v, hv, h⟩ := (cloB_iff hw).1 h
  refine (cloB_iff hw).2 ⟨v, hv, .inr ?_⟩
  rcases h with rfl | h
  · exact .one hm
  · exact h.snoc hm
theorem fro_clo {l : List CL} {ws : List Int} (hw : ∀ y ∈ ws, 0 ≤ y) {p m : Nat} (h : froB l ws p m = true) : cloB l ws m = true := by
  rcases froB_iff.1 h with h | ⟨s, _, h1, h2⟩
  · exact (cloB_iff hw).2 ⟨m, h, .inl rfl⟩
  · exact clo_step hw h1 h2
theorem fro_act {l : List CL} (hv : clsB l = true) {ws : List Int} (hw : ∀ y ∈ ws, 0 ≤ y) {q : Nat} : froB l ws (q + 1) q = cloB l ws q := by
  rw [Bool.eq_iff_iff]
  refine ⟨fro_clo hw, fun h => ?_⟩
  obtain ⟨v, hv', h⟩ := (cloB_iff hw).1 h
  rw [froB_iff]
  rcases h with rfl | h
  · exact .inl hv'
  · obtain ⟨s, hs, h2⟩ := h.last
    have hb := nd_bd hv h2
    refine .inr ⟨s, by omega, (cloB_iff hw).2 ⟨v, hv', ?_⟩, h2⟩
    exact hs.imp (fun e => e.symm) id
theorem fro_no {l : List CL} {ws : List Int} {q : Nat} (h : cloB l ws q = false) (m : Nat) : froB l ws q m = froB l ws (q + 1) m := by
  rw [Bool.eq_iff_iff, froB_iff, froB_iff]
  refine or_congr_right ⟨?_, ?_⟩
  · rintro ⟨s, h1, h2, h3⟩
    by_cases e : s = q
    · subst e; rw [h] at h2; cases h2
    · exact ⟨s, by omega, h2, h3⟩
  · rintro ⟨s, h1, h2, h3⟩; exact ⟨s, by omega, h2, h3⟩
/-- What is in the list when the first j needs of an active clause have been put in. -/
noncomputable def frT (l : List CL) (ws : List Int) (q : Nat) (ns : List Int) (j : Nat) : List Int := chP l.length (fun m => froB l ws (q + 1) m || (ns.take j).contains (m : Int))
theorem frT_zero (l : List CL) (ws : List Int) (q : Nat) (ns : List Int) : frT l ws q ns 0 = chP l.length (froB l ws (q + 1)) := by simp [frT]
theorem frT_next {l : List CL} {ws : List Int} {q : Nat} {ns : List Int} {j : Nat} {y : Int} (h : ns[j]? = some y) (h0 : 0 ≤ y) (h1 : y < l.length) : frT l ws q ns (j + 1) = putZ y (frT l ws q ns j) := by
  unfold frT
  rw [putZ_chP h0 h1]
  refine chP_congr (fun m hm => ?_)
  rw [List.take_add_one, h]
  rw [Bool.or_assoc]
  congr 1
  rw [Bool.eq_iff_iff, List.contains_iff_mem, Bool.or_eq_true, List.contains_iff_mem, decide_eq_true_eq, List.mem_append]
  simp
theorem frT_has {l : List CL} (hv : clsB l = true) {ws : List Int} (hw : ∀ y ∈ ws, 0 ≤ y) {q : Nat} (hq : q < l.length) {ns : List Int} {j : Nat} (hn : ∀ y ∈ ns, y < (q : Int)) : (frT l ws q ns j).contains (q : Int) = cloB l ws q := by
  unfold frT
  rw [has_chP (by omega) (by omega), Int.toNat_natCast, fro_act hv hw]
  have : (ns.take j).contains (q : Int) = false := by
    rw [Bool.eq_false_iff]
    intro h
    rw [List.contains_iff_mem] at h
    have := hn _ (List.mem_of_mem_take h)
    omega
  rw [this, Bool.or_false]
theorem frT_end {l : List CL} {ws : List Int} {q : Nat} {x : CL} (hx : l[q]? = some x) (ha : cloB l ws q = true) {j : Nat} (hj : x.ns.length = j) : frT l ws q x.ns j = chP l.length (froB l ws q) := by
  unfold frT
  rw [List.take_of_length_le (by omega)]
  refine chP_congr (fun m hm => ?_)
  rw [Bool.eq_iff_iff, Bool.or_eq_true, froB_iff, froB_iff, List.contains_iff_mem, ← nd_of hx]
  constructor
  · rintro ((h | ⟨s, h1, h2, h3⟩) | h)
    · exact .inl h
    · exact .inr ⟨s, by omega, h2, h3⟩
    · exact .inr ⟨q, Nat.le_refl _, ha, h⟩
  · rintro (h | ⟨s, h1, h2, h3⟩)
    · exact .inl (.inl h)
    · by_cases e : s = q
      · subst e; exact .inr h3
      · exact .inl (.inr ⟨s, by omega, h2, h3⟩)
theorem fro_start {l : List CL} (hv : clsB l = true) {ws : List Int} {n : Nat} (hn : l.length = n) (hr : risB ws 0 ((n : Int) - 1) = true) : chP l.length (froB l ws n) = ws := by
  conv => rhs; rw [← ris_chP hr]
  rw [hn]
  refine chP_congr (fun m hm => ?_)
  rw [Bool.eq_iff_iff, froB_iff, List.contains_iff_mem]
  constructor
  · rintro (h | ⟨s, h1, _, h3⟩)
    · exact h
    · have := nd_bd hv h3; omega
  · exact .inl
theorem fro_end {l : List CL} {ws : List Int} (hw : ∀ y ∈ ws, 0 ≤ y) : chP l.length (froB l ws 0) = cloL l ws := by
  refine chP_congr (fun m hm => ?_)
  rw [Bool.eq_iff_iff]
  refine ⟨fro_clo hw, fun h => ?_⟩
  obtain ⟨v, hv', h⟩ := (cloB_iff hw).1 h
  rw [froB_iff]
  rcases h with rfl | h
  · exact .inl hv'
  · obtain ⟨s, hs, h2⟩ := h.last
    exact .inr ⟨s, Nat.zero_le _, (cloB_iff hw).2 ⟨v, hv', hs.imp (fun e => e.symm) id⟩, h2⟩
theorem frT_len (l : List CL) (ws : List Int) (q : Nat) (ns : List Int) (j : Nat) : (frT l ws q ns j).length ≤ l.length := chP_len _ _

end Go.Proofs.Ytndoapgalbljpaa
