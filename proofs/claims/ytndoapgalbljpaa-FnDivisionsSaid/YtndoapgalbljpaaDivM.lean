/-
  YtndoapgalbljpaaDivM: clauses: the plain mathematics: which lists are valid, which clauses stand, what depends on what. No program in sight.
-/
import Derived.Test.YtndoapgalbljpaaNest
import Derived.Test.YtndoapgalbljpaaWord
import Derived.Test.YtndoapgalbljpaaRise
import Derived.Test.YtndoapgalbljpaaColl
import Derived.Test.YtndoapgalbljpaaUniq
namespace Go.Proofs.Ytndoapgalbljpaa
open Go Go.RowKit Go.Sort
set_option linter.unusedVariables false

def clOK (i : Nat) (x : CL) : Bool := inB x.ws.length 1 5 && x.ws.all wordB && risB x.ns 0 ((i : Int) - 1)
def clAt (l : List CL) (i : Nat) : Bool := (l[i]?.map (clOK i)).getD true
def clsB (l : List CL) : Bool := (List.range l.length).all (clAt l) && decide (l.length ≤ 8)
theorem clAt_of {l : List CL} {i : Nat} {x : CL} (h : l[i]? = some x) : clAt l i = clOK i x := by simp [clAt, h]
theorem cls_fails {l : List CL} {i : Nat} {x : CL} (h : l[i]? = some x) (hx : clOK i x = false) : clsB l = false := by
  unfold clsB
  rw [List.all_eq_false.2 ⟨i, List.mem_range.2 (List.getElem?_eq_some_iff.1 h).1, by rw [clAt_of h, hx]; simp⟩]; rfl
theorem cls_upto {l : List CL} (h : ∀ i, i < l.length → clAt l i = true) : clsB l = decide (l.length ≤ 8) := by
  unfold clsB
  rw [List.all_eq_true.2 (fun i hi => h i (List.mem_range.1 hi))]; rfl
theorem cls_many {l : List CL} (h : ¬ l.length ≤ 8) : clsB l = false := by unfold clsB; rw [decide_eq_false h, Bool.and_false]
theorem cls_len {l : List CL} (h : clsB l = true) : l.length ≤ 8 := by unfold clsB at h; rw [Bool.and_eq_true] at h; exact of_decide_eq_true h.2
theorem cls_at {l : List CL} (h : clsB l = true) {i : Nat} {x : CL} (hx : l[i]? = some x) : clOK i x = true := by
  unfold clsB at h
  rw [Bool.and_eq_true] at h
  rw [← clAt_of hx]
  exact List.all_eq_true.1 h.1 i (List.mem_range.2 (List.getElem?_eq_some_iff.1 hx).1)
theorem ris_spec {l : List Int} {lo hi : Int} : risB l lo hi = true ↔ l.Pairwise (· < ·) ∧ ∀ x ∈ l, lo ≤ x ∧ x ≤ hi := by
  constructor
  · intro h
    have hin : ∀ x ∈ l, lo ≤ x ∧ x ≤ hi := fun x hx => by
      obtain ⟨i, hi, rfl⟩ := List.mem_iff_getElem.1 hx
      have h1 := ris_at h hi
      unfold rok at h1
      rw [Bool.and_eq_true] at h1
      have := inB_iff.1 h1.1
      simpa [List.getD, List.getElem?_eq_getElem hi] using this
    refine ⟨?_, hin⟩
    rw [List.pairwise_iff_getElem]
    intro i j hi hj hij
    induction j with
    | zero => omega
    | succ j ih =>
      have h1 := ris_at h hj
      unfold rok at h1
      rw [Bool.and_eq_true] at h1
      have h2 : l[j] < l[j + 1] := by
        have := h1.2
        simp [List.getD, List.getElem?_eq_getElem hj, List.getElem?_eq_getElem (show j < l.length by omega)] at this
        exact this
      by_cases e : i = j
      · subst e; exact h2
      · have := ih (by omega) (by omega); omega
  · rintro ⟨h1, h2⟩
    refine ris_upto fun j hj => ?_
    have hx := List.getElem?_eq_getElem hj
    have hb := h2 l[j] (List.getElem_mem hj)
    by_cases h0 : j = 0
    · subst h0; exact rok_zero hx (inB_iff.2 hb)
    · exact rok_yes hx (List.getElem?_eq_getElem (show j - 1 < l.length by omega)) (inB_iff.2 hb) (List.pairwise_iff_getElem.1 h1 (j - 1) j (by omega) hj (by omega))
/-- What a clause needs. -/
def nd (l : List CL) (i : Nat) : List Int := (l[i]?.map (·.ns)).getD []
theorem nd_of {l : List CL} {i : Nat} {x : CL} (h : l[i]? = some x) : nd l i = x.ns := by simp [nd, h]
theorem nd_bd {l : List CL} (h : clsB l = true) {i : Nat} {y : Int} (hy : y ∈ nd l i) : 0 ≤ y ∧ y < i ∧ i < l.length := by
  unfold nd at hy
  cases hx : l[i]? with
  | none => rw [hx] at hy; simp at hy
  | some x =>
    rw [hx] at hy
    have h1 := cls_at h hx
    unfold clOK at h1
    rw [Bool.and_eq_true] at h1
    have := (ris_spec.1 h1.2).2 y hy
    exact ⟨this.1, by omega, (List.getElem?_eq_some_iff.1 hx).1⟩
theorem ns_bd {l : List CL} (h : clsB l = true) {i : Nat} {x : CL} (hx : l[i]? = some x) {y : Int} (hy : y ∈ x.ns) : 0 ≤ y ∧ y < i := by
  have := nd_bd h (i := i) (y := y) (by rw [nd_of hx]; exact hy)
  exact ⟨this.1, this.2.1⟩
theorem rise_len : ∀ (b : List Int) (lo hi : Int), b.Pairwise (· < ·) → (∀ x ∈ b, lo ≤ x ∧ x < hi) → lo ≤ hi → (b.length : Int) ≤ hi - lo
  | [], lo, hi, _, _, h => by simp; omega
  | z :: s, lo, hi, hp, hb, h => by
    rw [List.pairwise_cons] at hp
    have hz := hb z (by simp)
    have := rise_len s (z + 1) hi hp.2 (fun x hx => by have := hp.1 x hx; have := hb x (by simp [hx]); omega) (by omega)
    simp only [List.length_cons]
    omega
theorem ns_len {l : List CL} (h : clsB l = true) {i : Nat} {x : CL} (hx : l[i]? = some x) : x.ns.length ≤ 8 := by
  have h1 := cls_at h hx
  unfold clOK at h1
  rw [Bool.and_eq_true] at h1
  have h2 := ris_spec.1 h1.2
  have hi := (List.getElem?_eq_some_iff.1 hx).1
  have h8 := cls_len h
  have := rise_len x.ns 0 8 h2.1 (fun y hy => by have := h2.2 y hy; omega) (by omega)
  omega
theorem ws_ok {l : List CL} (h : clsB l = true) {i : Nat} {x : CL} (hx : l[i]? = some x) : x.ws.length ≤ 5 ∧ 1 ≤ x.ws.length ∧ x.ws.all wordB = true := by
  have h1 := cls_at h hx
  unfold clOK at h1
  rw [Bool.and_eq_true, Bool.and_eq_true] at h1
  have := inB_iff.1 h1.1.1
  exact ⟨by omega, by omega, h1.1.2⟩

/-! ### which clauses stand -/
/-- Of the first k clauses whether they stand. -/
def stTo (l : List CL) (ad : List Bool) : Nat → List Bool
  | 0 => []
  | k + 1 => stTo l ad k ++ [ad.getD k false && (nd l k).all (fun y => (stTo l ad k).getD y.toNat false)]
theorem stTo_len (l : List CL) (ad : List Bool) : ∀ k, (stTo l ad k).length = k
  | 0 => rfl
  | k + 1 => by simp [stTo, stTo_len l ad k]
def stB (l : List CL) (ad : List Bool) : List Bool := stTo l ad l.length
/-- The places of true. -/
def chsF (i : Nat) (b : Bool) : Option Int := if b then some (i : Int) else none
def chs (bs : List Bool) : List Int := fm chsF bs bs.length
theorem chs_len (bs : List Bool) : (chs bs).length ≤ bs.length := fm_len _ _ _
theorem fm_app {α β : Type} (f : Nat → α → Option β) (a b : List α) : ∀ k, k ≤ a.length → fm f (a ++ b) k = fm f a k
  | 0, _ => rfl
  | k + 1, h => by
    have h1 : (a ++ b)[k]? = a[k]? := List.getElem?_append_left (by omega)
    unfold fm at *
    rw [List.range_succ, List.filterMap_append, List.filterMap_append]
    have := fm_app f a b k (by omega)
    unfold fm at this
    rw [this, List.filterMap_cons, List.filterMap_cons, h1]
    cases a[k]?.bind (f k) <;> rfl
theorem chs_snoc (bs : List Bool) (b : Bool) : chs (bs ++ [b]) = chs bs ++ if b then [(bs.length : Int)] else [] := by
  unfold chs
  have hx : (bs ++ [b])[bs.length]? = some b := by simp
  rw [List.length_append, List.length_singleton]
  cases b
  · rw [fm_no hx rfl, fm_app _ _ _ _ (Nat.le_refl _)]; simp
  · rw [fm_yes hx rfl, fm_app _ _ _ _ (Nat.le_refl _)]; simp
theorem mem_chs {bs : List Bool} {y : Int} : y ∈ chs bs ↔ 0 ≤ y ∧ bs[y.toNat]? = some true := by
  unfold chs
  constructor
  · intro h
    obtain ⟨i, x, hi, hx, hf⟩ := fm_mem h
    unfold chsF at hf
    split at hf
    · injection hf with hf
      subst hf
      rename_i hb
      refine ⟨by omega, ?_⟩
      rw [Int.toNat_natCast, hx, hb]
    · cases hf
  · rintro ⟨h0, h⟩
    unfold fm
    rw [List.mem_filterMap]
    refine ⟨y.toNat, List.mem_range.2 (List.getElem?_eq_some_iff.1 h).1, ?_⟩
    rw [h]
    simp [chsF]
    omega
theorem has_chs {bs : List Bool} {y : Int} (h0 : 0 ≤ y) : (chs bs).contains y = bs.getD y.toNat false := by
  have h := mem_chs (bs := bs) (y := y)
  cases hg : bs[y.toNat]? with
  | none => simp [hg] at h; simp [List.getD, hg, h]
  | some b =>
    cases b
    · simp [hg] at h; simp [List.getD, hg, h]
    · simp [hg, h0] at h; simp [List.getD, hg, h]
theorem chs_take (bs : List Bool) (k : Nat) (b : Bool) (h : bs[k]? = some b) : chs (bs.take (k + 1)) = chs (bs.take k) ++ if b then [(k : Int)] else [] := by
  have hk := (List.getElem?_eq_some_iff.1 h).1
  rw [List.take_add_one, h]
  simp only [Option.toList]
  rw [chs_snoc]
  rw [List.length_take, Nat.min_eq_left (by omega)]
/-- The places of a set, in order. -/
def chP (n : Nat) (p : Nat → Bool) : List Int := chs ((List.range n).map p)
theorem mem_chP {n : Nat} {p : Nat → Bool} {y : Int} : y ∈ chP n p ↔ 0 ≤ y ∧ y < n ∧ p y.toNat = true := by
  unfold chP
  rw [mem_chs, List.getElem?_map]
  constructor
  · rintro ⟨h0, h⟩
    by_cases hy : y.toNat < n
    · rw [List.getElem?_range hy] at h; exact ⟨h0, by omega, by simpa using h⟩
    · rw [List.getElem?_eq_none (by simp; omega)] at h; cases h
  · rintro ⟨h0, h1, h⟩
    rw [List.getElem?_range (by omega)]
    exact ⟨h0, by simpa using h⟩
theorem rise_chs (bs : List Bool) : (chs bs).Pairwise (· < ·) := by
  have H : ∀ k, k ≤ bs.length → (chs (bs.take k)).Pairwise (· < ·) := by
    intro k
    induction k with
    | zero => intro _; exact List.Pairwise.nil
    | succ k ih =>
      intro hk
      rw [chs_take bs k _ (List.getElem?_eq_getElem (by omega)), List.pairwise_append]
      refine ⟨ih (by omega), by split <;> simp, fun x hx y hy => ?_⟩
      split at hy
      · simp at hy
        subst hy
        have h := (mem_chs.1 hx)
        have h2 := (List.getElem?_eq_some_iff.1 h.2).1
        have h3 := h.1
        simp at h2
        omega
      · simp at hy
  have := H bs.length (Nat.le_refl _)
  rwa [List.take_of_length_le (Nat.le_refl _)] at this
theorem rise_chP (n : Nat) (p : Nat → Bool) : (chP n p).Pairwise (· < ·) := rise_chs _
theorem chP_len (n : Nat) (p : Nat → Bool) : (chP n p).length ≤ n := by unfold chP; exact Nat.le_trans (chs_len _) (by simp)

/-! ### what depends on what -/
inductive Dep (l : List CL) : Nat → Nat → Prop
  | one {k j : Nat} (h : (j : Int) ∈ nd l k) : Dep l k j
  | step {k m j : Nat} (h : (m : Int) ∈ nd l k) (h2 : Dep l m j) : Dep l k j
theorem Dep.snoc {l : List CL} {k m j : Nat} (h : Dep l k m) (h2 : (j : Int) ∈ nd l m) : Dep l k j := by
  induction h with
  | one h => exact .step h (.one h2)
  | step h _ ih => exact .step h (ih h2)
theorem Dep.last {l : List CL} {k j : Nat} (h : Dep l k j) : ∃ s, (s = k ∨ Dep l k s) ∧ (j : Int) ∈ nd l s := by
  induction h with
  | one h => exact ⟨_, .inl rfl, h⟩
  | step h _ ih =>
    obtain ⟨s, hs, h2⟩ := ih
    refine ⟨s, .inr ?_, h2⟩
    rcases hs with rfl | hs
    · exact .one h
    · exact .step h hs
theorem Dep.lt {l : List CL} (hv : clsB l = true) {k j : Nat} (h : Dep l k j) : j < k ∧ k < l.length := by
  induction h with
  | one h => have := nd_bd hv h; omega
  | step h _ ih => have := nd_bd hv h; omega
theorem Dep.trans {l : List CL} {k m j : Nat} (h : Dep l k m) (h2 : Dep l m j) : Dep l k j := by
  induction h with
  | one h => exact .step h h2
  | step h _ ih => exact .step h (ih h2)
open Classical in
/-- Whether k depends on j. -/
noncomputable def depB (l : List CL) (k j : Nat) : Bool := decide (Dep l k j)
theorem depB_iff {l : List CL} {k j : Nat} : depB l k j = true ↔ Dep l k j := by simp [depB]
/-- The clauses that depend on one. -/
noncomputable def depL (l : List CL) (i : Nat) : List Int := chP l.length (fun k => depB l k i)
/-- Of each clause whether k depends on it. -/
noncomputable def dpB (l : List CL) (k : Nat) : List Bool := (List.range l.length).map (depB l k)

end Go.Proofs.Ytndoapgalbljpaa
