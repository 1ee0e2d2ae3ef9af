/-
  YtmmogpbbehgkiaaMovM: motions that were open together: the plain law: pairs collected, sorted and compacted are the pairs that were open together. No program in sight.
-/
import Derived.Test.YtmmogpbbehgkiaaTraX
import Derived.Test.YtmmogpbbehgkiaaUniq
namespace Go.Proofs.Ytmmogpbbehgkiaa
open Go Go.RowKit Go.Sort
set_option linter.unusedVariables false

/-! ### the reference's side -/
def togTo (l : List TS) (a b : Int) (k : Nat) : Bool := (List.range k).any fun n => (openL (l.take n)).contains a && (openL (l.take n)).contains b
def togB (l : List TS) (a b : Int) : Bool := togTo l a b (l.length + 1)
theorem togTo_succ (l : List TS) (a b : Int) (k : Nat) : togTo l a b (k + 1) = (togTo l a b k || ((openL (l.take k)).contains a && (openL (l.take k)).contains b)) := by
  unfold togTo; rw [List.range_succ, List.any_append]; simp
theorem togTo_iff (l : List TS) (a b : Int) (k : Nat) : togTo l a b k = true ↔ ∃ n, n < k ∧ a ∈ openL (l.take n) ∧ b ∈ openL (l.take n) := by
  unfold togTo
  rw [List.any_eq_true]
  constructor
  · rintro ⟨n, hn, h⟩
    rw [Bool.and_eq_true] at h
    exact ⟨n, List.mem_range.1 hn, by simpa using h.1, by simpa using h.2⟩
  · rintro ⟨n, hn, h1, h2⟩
    exact ⟨n, List.mem_range.2 hn, by rw [Bool.and_eq_true]; exact ⟨by simpa using h1, by simpa using h2⟩⟩
def pr (a b : Nat) : List Int := [(a : Int) + 1, (b : Int) + 1]
def rowTo (l : List TS) (a b : Nat) : List (List Int) := ((List.range b).filter fun t => decide (a < t) && togB l ((a : Int) + 1) ((t : Int) + 1)).map (pr a)
def movTo2 (l : List TS) (a : Nat) : List (List Int) := (List.range a).flatMap fun t => rowTo l t 20
def movL (l : List TS) : List (List Int) := movTo2 l 20
theorem rowTo_zero (l : List TS) (a : Nat) : rowTo l a (a + 1) = [] := by
  unfold rowTo
  rw [List.map_eq_nil_iff, List.filter_eq_nil_iff]
  intro t ht
  have := List.mem_range.1 ht
  rw [decide_eq_false (by omega)]
  simp
theorem rowTo_yes {l : List TS} {a b : Nat} (hab : a < b) (h : togB l ((a : Int) + 1) ((b : Int) + 1) = true) : rowTo l a (b + 1) = rowTo l a b ++ [pr a b] := by
  unfold rowTo; rw [List.range_succ, List.filter_append, List.map_append]
  simp [hab, h]
theorem rowTo_no {l : List TS} {a b : Nat} (h : togB l ((a : Int) + 1) ((b : Int) + 1) = false) : rowTo l a (b + 1) = rowTo l a b := by
  unfold rowTo; rw [List.range_succ, List.filter_append, List.map_append]
  simp [h]
theorem movTo2_succ (l : List TS) (a : Nat) : movTo2 l (a + 1) = movTo2 l a ++ rowTo l a 20 := by
  unfold movTo2; rw [List.range_succ, List.flatMap_append]; simp
theorem rowTo_len (l : List TS) (a b : Nat) : (rowTo l a b).length ≤ b := by
  unfold rowTo
  rw [List.length_map]
  exact Nat.le_trans (List.length_filter_le _ _) (by simp)
theorem movTo2_len (l : List TS) : ∀ a, (movTo2 l a).length ≤ 20 * a
  | 0 => by simp [movTo2]
  | a + 1 => by
    have := movTo2_len l a
    have := rowTo_len l a 20
    rw [movTo2_succ, List.length_append]
    omega
theorem rowTo_mem {l : List TS} {a b : Nat} {x : List Int} : x ∈ rowTo l a b ↔ ∃ t, a < t ∧ t < b ∧ togB l ((a : Int) + 1) ((t : Int) + 1) = true ∧ x = pr a t := by
  unfold rowTo
  rw [List.mem_map]
  constructor
  · rintro ⟨t, ht, rfl⟩
    rw [List.mem_filter, Bool.and_eq_true] at ht
    exact ⟨t, of_decide_eq_true ht.2.1, List.mem_range.1 ht.1, ht.2.2, rfl⟩
  · rintro ⟨t, h1, h2, h3, rfl⟩
    exact ⟨t, by rw [List.mem_filter, Bool.and_eq_true]; exact ⟨List.mem_range.2 h2, decide_eq_true h1, h3⟩, rfl⟩
theorem movTo2_mem {l : List TS} {a : Nat} {x : List Int} : x ∈ movTo2 l a ↔ ∃ s t, s < a ∧ s < t ∧ t < 20 ∧ togB l ((s : Int) + 1) ((t : Int) + 1) = true ∧ x = pr s t := by
  unfold movTo2
  rw [List.mem_flatMap]
  constructor
  · rintro ⟨s, hs, hx⟩
    obtain ⟨t, h1, h2, h3, h4⟩ := rowTo_mem.1 hx
    exact ⟨s, t, List.mem_range.1 hs, h1, h2, h3, h4⟩
  · rintro ⟨s, t, h0, h1, h2, h3, h4⟩
    exact ⟨s, List.mem_range.2 h0, rowTo_mem.2 ⟨t, h1, h2, h3, h4⟩⟩
/-- A pair as one number. -/
def keyP (x : List Int) : Int := 100 * x.getD 0 0 + x.getD 1 0
theorem keyP_two (a b : Int) : keyP [a, b] = 100 * a + b := rfl
theorem keyP_pr (a b : Nat) : keyP (pr a b) = 100 * ((a : Int) + 1) + ((b : Int) + 1) := rfl
theorem rowTo_rise (l : List TS) (a : Nat) : ∀ b, ((rowTo l a b).map keyP).Pairwise (· < ·)
  | 0 => by simp [rowTo]
  | b + 1 => by
    have ih := rowTo_rise l a b
    by_cases hab : a < b
    · cases h : togB l ((a : Int) + 1) ((b : Int) + 1)
      · rw [rowTo_no h]; exact ih
      · rw [rowTo_yes hab h, List.map_append, List.pairwise_append]
        refine ⟨ih, by simp, ?_⟩
        intro x hx y hy
        obtain ⟨p, hp, rfl⟩ := List.mem_map.1 hx
        obtain ⟨t, _, h2, _, rfl⟩ := rowTo_mem.1 hp
        simp only [List.map_cons, List.map_nil, List.mem_singleton] at hy
        subst hy
        rw [keyP_pr, keyP_pr]
        omega
    · have e : rowTo l a (b + 1) = [] := by
        cases hc : rowTo l a (b + 1) with
        | nil => rfl
        | cons y r =>
          obtain ⟨t, h1, h2, _⟩ := rowTo_mem.1 (hc ▸ List.mem_cons_self : y ∈ rowTo l a (b + 1))
          omega
      rw [e]; simp
theorem movTo2_rise (l : List TS) : ∀ a, ((movTo2 l a).map keyP).Pairwise (· < ·)
  | 0 => by simp [movTo2]
  | a + 1 => by
    rw [movTo2_succ, List.map_append, List.pairwise_append]
    refine ⟨movTo2_rise l a, rowTo_rise l a 20, ?_⟩
    intro x hx y hy
    obtain ⟨p, hp, rfl⟩ := List.mem_map.1 hx
    obtain ⟨q, hq, rfl⟩ := List.mem_map.1 hy
    obtain ⟨s, t, h0, h1, h2, _, rfl⟩ := movTo2_mem.1 hp
    obtain ⟨u, g1, g2, _, rfl⟩ := rowTo_mem.1 hq
    rw [keyP_pr, keyP_pr]
    omega

/-! ### the program's side: the pairs collected -/
def pairsAt (xs : List Int) (i j : Nat) : List (List Int) := ((xs.drop (i + 1)).take j).map fun b => [xs.getD i 0, b]
def pairsOf (xs : List Int) (i : Nat) : List (List Int) := (xs.drop (i + 1)).map fun b => [xs.getD i 0, b]
def pairsTo (xs : List Int) (i : Nat) : List (List Int) := (List.range i).flatMap (pairsOf xs)
def rawTo (l : List TS) (n : Nat) : List (List Int) := (List.range n).flatMap fun k => pairsTo (openL (l.take k)) (openL (l.take k)).length
def rawL (l : List TS) : List (List Int) := rawTo l (l.length + 1)
theorem pairsAt_succ {xs : List Int} {i j : Nat} {b a : Int} (h : (xs.drop (i + 1))[j]? = some b) (ha : xs[i]? = some a) : pairsAt xs i (j + 1) = pairsAt xs i j ++ [[a, b]] := by
  unfold pairsAt
  rw [List.take_add_one, h, List.map_append, List.getD_eq_getElem?_getD, ha]
  rfl
theorem pairsAt_all {xs : List Int} {i j : Nat} (h : (xs.drop (i + 1)).length ≤ j) : pairsAt xs i j = pairsOf xs i := by
  unfold pairsAt pairsOf; rw [List.take_of_length_le h]
theorem pairsTo_succ (xs : List Int) (i : Nat) : pairsTo xs (i + 1) = pairsTo xs i ++ pairsOf xs i := by
  unfold pairsTo; rw [List.range_succ, List.flatMap_append]; simp
theorem rawTo_succ (l : List TS) (n : Nat) : rawTo l (n + 1) = rawTo l n ++ pairsTo (openL (l.take n)) (openL (l.take n)).length := by
  unfold rawTo; rw [List.range_succ, List.flatMap_append]; simp
theorem pairsOf_len (xs : List Int) (i : Nat) : (pairsOf xs i).length ≤ xs.length := by unfold pairsOf; simp
theorem pairsAt_len (xs : List Int) (i j : Nat) : (pairsAt xs i j).length ≤ j := by unfold pairsAt; simp; omega
theorem pairsTo_len (xs : List Int) : ∀ i, (pairsTo xs i).length ≤ xs.length * i
  | 0 => by simp [pairsTo]
  | i + 1 => by
    have := pairsTo_len xs i
    have := pairsOf_len xs i
    rw [pairsTo_succ, List.length_append, Nat.mul_succ]
    omega
theorem openL_20 (l : List TS) : (openL l).length ≤ 20 := openTo_len l 20
theorem pairs_400 (l : List TS) {i : Nat} (hi : i ≤ (openL l).length) : (pairsTo (openL l) i).length ≤ 400 := by
  have h1 := pairsTo_len (openL l) i
  have h2 := openL_20 l
  have h3 : (openL l).length * i ≤ 20 * 20 := Nat.mul_le_mul h2 (by omega)
  omega
theorem rawTo_len (l : List TS) : ∀ n, (rawTo l n).length ≤ 400 * n
  | 0 => by simp [rawTo]
  | n + 1 => by
    have := rawTo_len l n
    have := pairs_400 (l.take n) (Nat.le_refl _)
    rw [rawTo_succ, List.length_append]
    omega
theorem pairsOf_mem {xs : List Int} {i : Nat} {x : List Int} : x ∈ pairsOf xs i ↔ ∃ b, b ∈ xs.drop (i + 1) ∧ x = [xs.getD i 0, b] := by
  unfold pairsOf
  rw [List.mem_map]
  exact ⟨fun ⟨b, h, e⟩ => ⟨b, h, e.symm⟩, fun ⟨b, h, e⟩ => ⟨b, h, e.symm⟩⟩
theorem pairs_mem {xs : List Int} (hr : xs.Pairwise (· < ·)) {x : List Int} : x ∈ pairsTo xs xs.length ↔ ∃ a b, a < b ∧ a ∈ xs ∧ b ∈ xs ∧ x = [a, b] := by
  unfold pairsTo
  rw [List.mem_flatMap]
  constructor
  · rintro ⟨i, hi, hx⟩
    have hi := List.mem_range.1 hi
    obtain ⟨b, hb, rfl⟩ := pairsOf_mem.1 hx
    obtain ⟨j, hj⟩ := List.mem_iff_getElem?.1 hb
    rw [List.getElem?_drop] at hj
    obtain ⟨hjl, ej⟩ := List.getElem?_eq_some_iff.1 hj
    have ea : xs.getD i 0 = xs[i] := by rw [List.getD_eq_getElem?_getD, List.getElem?_eq_getElem hi]; rfl
    refine ⟨xs[i], b, ?_, List.getElem_mem hi, List.mem_of_getElem? hj, by rw [ea]⟩
    have := List.pairwise_iff_getElem.1 hr i (i + 1 + j) hi hjl (by omega)
    rw [ej] at this
    exact this
  · rintro ⟨a, b, hab, ha, hb, rfl⟩
    obtain ⟨i, hi, ei⟩ := List.mem_iff_getElem.1 ha
    obtain ⟨j, hj, ej⟩ := List.mem_iff_getElem.1 hb
    have hij : i < j := by
      rcases Nat.lt_trichotomy i j with h | h | h
      · exact h
      · subst h; rw [ei] at ej; omega
      · have := List.pairwise_iff_getElem.1 hr j i hj hi h
        rw [ei, ej] at this; omega
    refine ⟨i, List.mem_range.2 hi, pairsOf_mem.2 ⟨b, ?_, ?_⟩⟩
    · refine List.mem_iff_getElem?.2 ⟨j - (i + 1), ?_⟩
      rw [List.getElem?_drop, show i + 1 + (j - (i + 1)) = j by omega, List.getElem?_eq_getElem hj, ej]
    · rw [List.getD_eq_getElem?_getD, List.getElem?_eq_getElem hi, ei]; rfl
theorem rawTo_mem {l : List TS} {n : Nat} {x : List Int} : x ∈ rawTo l n ↔ ∃ k, k < n ∧ ∃ a b, a < b ∧ a ∈ openL (l.take k) ∧ b ∈ openL (l.take k) ∧ x = [a, b] := by
  unfold rawTo
  rw [List.mem_flatMap]
  constructor
  · rintro ⟨k, hk, hx⟩
    exact ⟨k, List.mem_range.1 hk, (pairs_mem (open_rise _).1).1 hx⟩
  · rintro ⟨k, hk, h⟩
    exact ⟨k, List.mem_range.2 hk, (pairs_mem (open_rise _).1).2 h⟩
def okP2 (x : List Int) : Prop := ∃ a b : Int, x = [a, b] ∧ 1 ≤ a ∧ a ≤ 20 ∧ 1 ≤ b ∧ b ≤ 20
theorem raw_ok {l : List TS} {n : Nat} {x : List Int} (h : x ∈ rawTo l n) : okP2 x := by
  obtain ⟨k, _, a, b, _, ha, hb, rfl⟩ := rawTo_mem.1 h
  have h1 := (open_rise (l.take k)).2 a ha
  have h2 := (open_rise (l.take k)).2 b hb
  exact ⟨a, b, rfl, h1.1, h1.2, h2.1, h2.2⟩
theorem raw_mov (l : List TS) (x : List Int) : x ∈ rawL l ↔ x ∈ movL l := by
  unfold rawL movL
  rw [rawTo_mem, movTo2_mem]
  constructor
  · rintro ⟨k, hk, a, b, hab, ha, hb, rfl⟩
    have h1 := (open_rise (l.take k)).2 a ha
    have h2 := (open_rise (l.take k)).2 b hb
    obtain ⟨s, hs⟩ := Int.eq_ofNat_of_zero_le (show 0 ≤ a - 1 by omega)
    obtain ⟨t, ht⟩ := Int.eq_ofNat_of_zero_le (show 0 ≤ b - 1 by omega)
    have ea : a = (s : Int) + 1 := by omega
    have eb : b = (t : Int) + 1 := by omega
    subst ea eb
    exact ⟨s, t, by omega, by omega, by omega, (togTo_iff _ _ _ _).2 ⟨k, hk, ha, hb⟩, rfl⟩
  · rintro ⟨s, t, h0, h1, h2, h3, rfl⟩
    obtain ⟨k, hk, ha, hb⟩ := (togTo_iff _ _ _ _).1 h3
    exact ⟨k, hk, _, _, by omega, ha, hb, rfl⟩
theorem keyP_inj {x y : List Int} (hx : okP2 x) (hy : okP2 y) (h : keyP x = keyP y) : x = y := by
  obtain ⟨a, b, rfl, _, _, _, _⟩ := hx
  obtain ⟨c, d, rfl, _, _, _, _⟩ := hy
  rw [keyP_two, keyP_two] at h
  have e1 : a = c := by omega
  have e2 : b = d := by omega
  rw [e1, e2]
theorem keys_inj : ∀ {a b : List (List Int)}, (∀ x ∈ a, okP2 x) → (∀ x ∈ b, okP2 x) → a.map keyP = b.map keyP → a = b
  | [], [], _, _, _ => rfl
  | [], y :: b, _, _, h => by simp at h
  | x :: a, [], _, _, h => by simp at h
  | x :: a, y :: b, ha, hb, h => by
    rw [List.map_cons, List.map_cons] at h
    injection h with h1 h2
    rw [keyP_inj (ha x List.mem_cons_self) (hb y List.mem_cons_self) h1, keys_inj (fun z hz => ha z (List.mem_cons_of_mem _ hz)) (fun z hz => hb z (List.mem_cons_of_mem _ hz)) h2]
/-- What rises and has the members of the pairs collected is the list of the pairs that were open together. -/
theorem mov_of {l : List TS} {m : List (List Int)} (hr : (m.map keyP).Pairwise (· < ·)) (hm : ∀ z, z ∈ m.map keyP ↔ z ∈ (rawL l).map keyP) (hg : ∀ x ∈ m, okP2 x) : m = movL l := by
  have e : m.map keyP = (movL l).map keyP := rise_ext hr (movTo2_rise l 20) fun z => by
    rw [hm z, List.mem_map, List.mem_map]
    exact ⟨fun ⟨x, h1, h2⟩ => ⟨x, (raw_mov l x).1 h1, h2⟩, fun ⟨x, h1, h2⟩ => ⟨x, (raw_mov l x).2 h1, h2⟩⟩
  exact keys_inj hg (fun x hx => raw_ok ((raw_mov l x).2 hx)) e

/-! ### neighbours of one key taken as one -/
variable {α : Type}
def keepB (key : α → Int) (ds : List α) : Nat → Bool
  | 0 => true
  | j + 1 => !decide (ds[j + 1]?.map key = ds[j]?.map key)
def cmpTo (key : α → Int) (ds : List α) (m : Nat) : List α := (List.range m).filterMap fun j => if keepB key ds j then ds[j]? else none
theorem cmpTo_yes {key : α → Int} {ds : List α} {m : Nat} {x : α} (hx : ds[m]? = some x) (h : keepB key ds m = true) : cmpTo key ds (m + 1) = cmpTo key ds m ++ [x] := by
  unfold cmpTo; rw [List.range_succ, List.filterMap_append]; simp [h, hx]
theorem cmpTo_no {key : α → Int} {ds : List α} {m : Nat} (h : keepB key ds m = false) : cmpTo key ds (m + 1) = cmpTo key ds m := by
  unfold cmpTo; rw [List.range_succ, List.filterMap_append]; simp [h]
theorem cmpTo_one {key : α → Int} {ds : List α} {x : α} (hx : ds[0]? = some x) : cmpTo key ds 1 = [x] := by
  rw [cmpTo_yes hx rfl]; rfl
theorem keepB_at {key : α → Int} {ds : List α} {m : Nat} {x y : α} (hx : ds[m]? = some x) (hm : 0 < m) (hy : ds[m - 1]? = some y) : keepB key ds m = !decide (key x = key y) := by
  obtain ⟨k, rfl⟩ : ∃ k, m = k + 1 := ⟨m - 1, by omega⟩
  rw [show k + 1 - 1 = k from rfl] at hy
  simp [keepB, hx, hy]
theorem cmpTo_len (key : α → Int) (ds : List α) : ∀ m, (cmpTo key ds m).length ≤ m
  | 0 => by simp [cmpTo]
  | m + 1 => by
    have ih := cmpTo_len key ds m
    unfold cmpTo at *
    rw [List.range_succ, List.filterMap_append, List.length_append]
    have : (List.filterMap (fun j => if keepB key ds j then ds[j]? else none) [m]).length ≤ 1 := Nat.le_trans (List.length_filterMap_le _ _) (by simp)
    omega
theorem cmpTo_all {key : α → Int} {ds : List α} : ∀ m, m ≤ ds.length → (∀ j, j < m → keepB key ds j = true) → cmpTo key ds m = ds.take m
  | 0, _, _ => by simp [cmpTo]
  | m + 1, hm, h => by
    rw [cmpTo_yes (List.getElem?_eq_getElem (by omega)) (h m (by omega)), cmpTo_all m (by omega) (fun j hj => h j (by omega)), List.take_add_one, List.getElem?_eq_getElem (by omega)]
    rfl
theorem cmpTo_sub (key : α → Int) (ds : List α) : ∀ m, (cmpTo key ds m).Sublist (ds.take m)
  | 0 => by simp [cmpTo]
  | m + 1 => by
    have ih := cmpTo_sub key ds m
    by_cases hm : m < ds.length
    · rw [List.take_add_one, List.getElem?_eq_getElem hm]
      cases h : keepB key ds m
      · rw [cmpTo_no h]; exact ih.trans (List.sublist_append_left _ _)
      · rw [cmpTo_yes (List.getElem?_eq_getElem hm) h]; exact ih.append (List.Sublist.refl _)
    · have e : cmpTo key ds (m + 1) = cmpTo key ds m := by
        unfold cmpTo
        rw [List.range_succ, List.filterMap_append]
        simp [List.getElem?_eq_none (show ds.length ≤ m by omega)]
      rw [e, List.take_of_length_le (by omega)]
      rw [List.take_of_length_le (by omega)] at ih
      exact ih
theorem cmpTo_spec {key : α → Int} {ds : List α} (hs : (ds.map key).Pairwise (· ≤ ·)) : ∀ m, m ≤ ds.length → ((cmpTo key ds m).map key).Pairwise (· < ·) ∧ (∀ z, z ∈ (cmpTo key ds m).map key ↔ z ∈ (ds.take m).map key) ∧ (∀ z ∈ (cmpTo key ds m).map key, ∀ y, ds[m - 1]? = some y → z ≤ key y)
  | 0, _ => by simp [cmpTo]
  | m + 1, hm => by
    obtain ⟨h1, h2, h3⟩ := cmpTo_spec hs m (by omega)
    have hx : ds[m]? = some ds[m] := List.getElem?_eq_getElem (by omega)
    have hle : ∀ z ∈ (ds.take m).map key, z ≤ key ds[m] := fun z hz => by
      obtain ⟨y, hy, rfl⟩ := List.mem_map.1 hz
      obtain ⟨j, hj⟩ := List.mem_iff_getElem?.1 hy
      have hjm : j < m := by
        have := (List.getElem?_eq_some_iff.1 hj).1
        rw [List.length_take] at this
        omega
      rw [List.getElem?_take_of_lt hjm] at hj
      obtain ⟨hjl, ej⟩ := List.getElem?_eq_some_iff.1 hj
      have := List.pairwise_iff_getElem.1 hs j m (by simpa using hjl) (by simpa using (show m < ds.length by omega)) hjm
      simpa [ej] using this
    have hlast : ∀ y, ds[m + 1 - 1]? = some y → y = ds[m] := fun y hy => by
      rw [show m + 1 - 1 = m from rfl, hx] at hy; injection hy with hy; exact hy.symm
    have htk : (ds.take (m + 1)).map key = (ds.take m).map key ++ [key ds[m]] := by
      rw [List.take_add_one, hx, List.map_append]; rfl
    cases h : keepB key ds m
    · have h0 : 0 < m := by
        rcases Nat.eq_zero_or_pos m with rfl | h0
        · cases h
        · exact h0
      have hy : ds[m - 1]? = some ds[m - 1] := List.getElem?_eq_getElem (by omega)
      have hk := keepB_at (key := key) hx h0 hy
      rw [h] at hk
      have hkk : key ds[m] = key ds[m - 1] := by simpa using hk
      rw [cmpTo_no h, htk]
      refine ⟨h1, fun z => ?_, fun z hz y hy => ?_⟩
      · rw [h2 z, List.mem_append, List.mem_singleton]
        refine ⟨.inl, fun hz => ?_⟩
        rcases hz with hz | hz
        · exact hz
        · rw [hz, hkk]
          exact List.mem_map.2 ⟨ds[m - 1], List.mem_iff_getElem?.2 ⟨m - 1, by rw [List.getElem?_take_of_lt (by omega), hy]⟩, rfl⟩
      · rw [hlast y hy]; exact hle z ((h2 z).1 hz)
    · rw [cmpTo_yes hx h, htk, List.map_append]
      refine ⟨?_, fun z => ?_, fun z hz y hy => ?_⟩
      · rw [List.pairwise_append]
        refine ⟨h1, by simp, fun a ha b hb => ?_⟩
        simp only [List.map_cons, List.map_nil, List.mem_singleton] at hb
        subst hb
        rcases Nat.eq_zero_or_pos m with h0 | h0
        · subst h0; simp [cmpTo] at ha
        · have hy : ds[m - 1]? = some ds[m - 1] := List.getElem?_eq_getElem (by omega)
          have hk := keepB_at (key := key) hx h0 hy
          rw [h] at hk
          have hkk : ¬ key ds[m] = key ds[m - 1] := by simpa using hk
          have ha1 := h3 a ha _ hy
          have hle2 : key ds[m - 1] ≤ key ds[m] := hle _ (List.mem_map.2 ⟨ds[m - 1], List.mem_iff_getElem?.2 ⟨m - 1, by rw [List.getElem?_take_of_lt (by omega), hy]⟩, rfl⟩)
          omega
      · rw [List.mem_append, List.mem_append, h2 z]; simp
      · rw [hlast y hy]
        rw [List.mem_append] at hz
        rcases hz with hz | hz
        · exact hle z ((h2 z).1 hz)
        · simp only [List.map_cons, List.map_nil, List.mem_singleton] at hz
          rw [hz]; exact Int.le_refl _
/-- The row while the second loop goes: what is kept, then what was there. -/
theorem keep_set {C ds : List α} {k : Nat} {x : α} (hk : C.length = k) (hl : k < ds.length) : (C ++ ds.drop k).set k x = (C ++ [x]) ++ ds.drop (k + 1) := by
  rw [List.set_append_right _ _ (by omega), hk, Nat.sub_self, List.drop_eq_getElem_cons hl, List.set_cons_zero]
  simp
theorem keep_get {C ds : List α} {k j : Nat} (hk : C.length = k) (hj : k ≤ j) : (C ++ ds.drop k)[j]? = ds[j]? := by
  rw [List.getElem?_append_right (by omega), List.getElem?_drop, hk, show k + (j - k) = j by omega]

end Go.Proofs.Ytmmogpbbehgkiaa
