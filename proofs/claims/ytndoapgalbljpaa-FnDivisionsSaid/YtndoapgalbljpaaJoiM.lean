/-
  YtndoapgalbljpaaJoiM: two clauses joined: the plain mathematics: both sides make the same list. No program in sight.
-/
import Derived.Test.YtndoapgalbljpaaDivM
namespace Go.Proofs.Ytndoapgalbljpaa
open Go Go.RowKit Go.Sort
set_option linter.unusedVariables false

/-- A number of a clause behind the joining of clauses i and i + 1. -/
def dn (i : Nat) (y : Int) : Int := if (i : Int) < y then y - 1 else y
theorem dn_gt {i : Nat} {y : Int} (h : (i : Int) < y) : dn i y = y - 1 := by simp [dn, h]
theorem dn_le {i : Nat} {y : Int} (h : ¬ (i : Int) < y) : dn i y = y := by simp [dn, h]
/-- What the reference keeps of a clause's needs (o: its place behind the joining). -/
def dnF (i o : Nat) (ns : List Int) : List Int := (ns.map (dn i)).filter fun y => !decide (y = (o : Int))
/-- The numbers without one. -/
def wo (ns : List Int) (o : Nat) : List Int := ns.filter fun y => !decide (y = (o : Int))
def clD : CL := ⟨[], []⟩
def gI (i : Nat) (x : CL) : CL := ⟨x.ws, x.ns.map (dn i)⟩
def fS (i : Nat) (x : CL) : CL := ⟨x.ws, putAll (x.ns.map (dn i))⟩
def at2 (l : List CL) (i : Nat) : CL := l[i]?.getD clD
theorem at2_of {l : List CL} {i : Nat} {x : CL} (h : l[i]? = some x) : at2 l i = x := by simp [at2, h]
/-- The joined clause: as the program collects it, as the reference makes it. -/
def mgI (l : List CL) (i : Nat) : CL := ⟨(at2 l i).ws ++ (at2 l (i + 1)).ws, (at2 l i).ns.map (dn i) ++ wo ((at2 l (i + 1)).ns.map (dn i)) i⟩
def mgS (l : List CL) (i : Nat) : CL := ⟨(at2 l i).ws ++ (at2 l (i + 1)).ws, putAll (dnF i i ((at2 l i).ns ++ (at2 l (i + 1)).ns))⟩
def imTo (l : List CL) (i k : Nat) : List CL := (l.take (min k i)).map (gI i) ++ ((if k ≤ i then [] else if k = i + 1 then [gI i (at2 l i)] else [mgI l i]) ++ ((l.take k).drop (i + 2)).map (gI i))
def spTo (l : List CL) (i k : Nat) : List CL := (l.take (min k i)).map (fS i) ++ ((if k ≤ i then [] else [mgS l i]) ++ ((l.take k).drop (i + 2)).map (fS i))
def srt (x : CL) : CL := ⟨x.ws, Lib.compact (x.ns.mergeSort fun x y => decide (x ≤ y))⟩
theorem srt_eq (x : CL) : srt x = ⟨x.ws, putAll x.ns⟩ := by unfold srt; rw [compact_sort]
theorem drop_nil {l : List CL} {i k : Nat} (h : k ≤ i + 2) : (l.take k).drop (i + 2) = [] := by
  rw [List.drop_eq_nil_iff, List.length_take]; omega
theorem take_snoc {l : List CL} {k : Nat} {x : CL} (h : l[k]? = some x) : l.take (k + 1) = l.take k ++ [x] := by rw [List.take_add_one, h]; rfl
theorem drop_snoc {l : List CL} {i k : Nat} {x : CL} (h : l[k]? = some x) (hk : i + 2 ≤ k) : (l.take (k + 1)).drop (i + 2) = (l.take k).drop (i + 2) ++ [x] := by
  have hl := (List.getElem?_eq_some_iff.1 h).1
  rw [take_snoc h, List.drop_append_of_le_length (by rw [List.length_take]; omega)]

/-! ### the program's side -/
theorem imTo_zero (l : List CL) (i : Nat) : imTo l i 0 = [] := by simp [imTo]
theorem imTo_lt {l : List CL} {i k : Nat} {x : CL} (h : l[k]? = some x) (hk : k ≤ i) : imTo l i (k + 1) = imTo l i k ++ [gI i x] := by
  unfold imTo
  rw [drop_nil (show k + 1 ≤ i + 2 by omega), drop_nil (show k ≤ i + 2 by omega), if_pos hk]
  by_cases e : k = i
  · subst e
    rw [if_neg (by omega), if_pos rfl, show min (k + 1) k = k by omega, Nat.min_self, at2_of h]
    simp
  · rw [if_pos (show k + 1 ≤ i by omega), show min (k + 1) i = k + 1 by omega, show min k i = k by omega, take_snoc h]
    simp
theorem imTo_gt {l : List CL} {i k : Nat} {x : CL} (h : l[k]? = some x) (hk : i + 2 ≤ k) : imTo l i (k + 1) = imTo l i k ++ [gI i x] := by
  unfold imTo
  rw [drop_snoc h hk, if_neg (show ¬ k + 1 ≤ i by omega), if_neg (show ¬ k + 1 = i + 1 by omega), if_neg (show ¬ k ≤ i by omega), if_neg (show ¬ k = i + 1 by omega), show min (k + 1) i = i by omega, show min k i = i by omega]
  simp
theorem imTo_app {l : List CL} {i k : Nat} {x : CL} (h : l[k]? = some x) (hk : k ≠ i + 1) : imTo l i (k + 1) = imTo l i k ++ [gI i x] := by
  by_cases h1 : k ≤ i
  · exact imTo_lt h h1
  · exact imTo_gt h (by omega)
theorem imTo_len {l : List CL} {i k : Nat} (hk : k ≤ l.length) (hi : i + 1 < l.length) : (imTo l i k).length = if k ≤ i + 1 then k else k - 1 := by
  unfold imTo
  by_cases h1 : k ≤ i
  · rw [drop_nil (by omega), if_pos h1, if_pos (by omega)]
    simp; omega
  · by_cases h2 : k = i + 1
    · rw [drop_nil (by omega), if_neg h1, if_pos h2, if_pos (by omega)]
      simp; omega
    · rw [if_neg h1, if_neg h2, if_neg (by omega)]
      simp; omega
theorem imTo_at {l : List CL} {i : Nat} {x : CL} (h : l[i]? = some x) : imTo l i (i + 1) = imTo l i i ++ [gI i x] := imTo_lt h (Nat.le_refl _)
theorem imTo_mid {l : List CL} {i : Nat} (hi : i + 1 < l.length) : imTo l i (i + 1 + 1) = (imTo l i (i + 1)).set i (mgI l i) := by
  unfold imTo
  rw [drop_nil (show i + 1 + 1 ≤ i + 2 by omega), drop_nil (show i + 1 ≤ i + 2 by omega), if_neg (show ¬ i + 1 + 1 ≤ i by omega), if_neg (show ¬ i + 1 + 1 = i + 1 by omega), if_neg (show ¬ i + 1 ≤ i by omega), if_pos rfl, show min (i + 1 + 1) i = i by omega, show min (i + 1) i = i by omega]
  have hl : ((l.take i).map (gI i)).length = i := by simp; omega
  rw [List.map_nil, List.append_nil, List.append_nil, List.set_append_right _ _ (by omega), hl, Nat.sub_self, List.set_cons_zero]
theorem imTo_geti {l : List CL} {i : Nat} {x : CL} (h : l[i]? = some x) : (imTo l i (i + 1))[i]? = some (gI i x) := by
  have hl : (imTo l i i).length = i := by
    have := (List.getElem?_eq_some_iff.1 h).1
    unfold imTo
    rw [drop_nil (by omega), if_pos (Nat.le_refl _)]
    simp; omega
  rw [imTo_at h, List.getElem?_append_right (by omega), hl, Nat.sub_self]
  rfl
theorem mgI_of {l : List CL} {i : Nat} {x y : CL} (hx : l[i]? = some x) (hy : l[i + 1]? = some y) : mgI l i = ⟨x.ws ++ y.ws, x.ns.map (dn i) ++ wo (y.ns.map (dn i)) i⟩ := by
  unfold mgI; rw [at2_of hx, at2_of hy]

/-! ### the reference's side -/
theorem spTo_zero (l : List CL) (i : Nat) : spTo l i 0 = [] := by simp [spTo]
theorem spTo_lt {l : List CL} {i k : Nat} {x : CL} (h : l[k]? = some x) (hk : k < i) : spTo l i (k + 1) = spTo l i k ++ [fS i x] := by
  unfold spTo
  rw [drop_nil (show k + 1 ≤ i + 2 by omega), drop_nil (show k ≤ i + 2 by omega), if_pos (show k + 1 ≤ i by omega), if_pos (show k ≤ i by omega), show min (k + 1) i = k + 1 by omega, show min k i = k by omega, take_snoc h]
  simp
theorem spTo_eq (l : List CL) (i : Nat) : spTo l i (i + 1) = spTo l i i ++ [mgS l i] := by
  unfold spTo
  rw [drop_nil (show i + 1 ≤ i + 2 by omega), drop_nil (show i ≤ i + 2 by omega), if_neg (show ¬ i + 1 ≤ i by omega), if_pos (Nat.le_refl _), show min (i + 1) i = i by omega, Nat.min_self]
  simp
theorem spTo_skip (l : List CL) (i : Nat) : spTo l i (i + 1 + 1) = spTo l i (i + 1) := by
  unfold spTo
  rw [drop_nil (show i + 1 + 1 ≤ i + 2 by omega), drop_nil (show i + 1 ≤ i + 2 by omega), if_neg (show ¬ i + 1 + 1 ≤ i by omega), if_neg (show ¬ i + 1 ≤ i by omega), show min (i + 1 + 1) i = i by omega, show min (i + 1) i = i by omega]
theorem spTo_gt {l : List CL} {i k : Nat} {x : CL} (h : l[k]? = some x) (hk : i + 2 ≤ k) : spTo l i (k + 1) = spTo l i k ++ [fS i x] := by
  unfold spTo
  rw [drop_snoc h hk, if_neg (show ¬ k + 1 ≤ i by omega), if_neg (show ¬ k ≤ i by omega), show min (k + 1) i = i by omega, show min k i = i by omega]
  simp
theorem spTo_len {l : List CL} {i k : Nat} (hk : k ≤ l.length) (hi : i + 1 < l.length) : (spTo l i k).length = if k ≤ i + 1 then k else k - 1 := by
  unfold spTo
  by_cases h1 : k ≤ i
  · rw [drop_nil (by omega), if_pos h1, if_pos (by omega)]
    simp; omega
  · by_cases h2 : k = i + 1
    · rw [drop_nil (by omega), if_neg h1, if_pos (by omega)]
      simp; omega
    · rw [if_neg h1, if_neg (by omega)]
      simp; omega
theorem dnF_app (i o : Nat) (a b : List Int) : dnF i o (a ++ b) = dnF i o a ++ dnF i o b := by unfold dnF; rw [List.map_append, List.filter_append]
theorem dnF_none {i o : Nat} {ns : List Int} (h : ∀ y ∈ ns, dn i y ≠ (o : Int)) : dnF i o ns = ns.map (dn i) := by
  unfold dnF
  rw [List.filter_eq_self]
  intro y hy
  obtain ⟨z, hz, rfl⟩ := List.mem_map.1 hy
  simpa using h z hz
/-- What the reference keeps of a clause that is not joined. -/
theorem dnF_lt {l : List CL} {i k : Nat} {x : CL} (hv : clsB l = true) (h : l[k]? = some x) (hk : k < i) : putAll (dnF i k x.ns) = (fS i x).ns := by
  rw [dnF_none fun y hy => ?_]
  · rfl
  · have := ns_bd hv h hy
    rw [dn_le (by omega)]; omega
theorem dnF_gt {l : List CL} {i k : Nat} {x : CL} (hv : clsB l = true) (h : l[k]? = some x) (hk : i + 2 ≤ k) : putAll (dnF i (k - 1) x.ns) = (fS i x).ns := by
  rw [dnF_none fun y hy => ?_]
  · rfl
  · have := ns_bd hv h hy
    by_cases h1 : (i : Int) < y
    · rw [dn_gt h1]; omega
    · rw [dn_le h1]; omega
theorem mg_eq {l : List CL} {i : Nat} (hv : clsB l = true) (hi : i + 1 < l.length) : srt (mgI l i) = mgS l i := by
  have hx := List.getElem?_eq_getElem (show i < l.length by omega)
  have hy := List.getElem?_eq_getElem hi
  rw [srt_eq]
  unfold mgI mgS
  rw [at2_of hx, at2_of hy, dnF_app, dnF_none (o := i) (ns := l[i].ns) fun y hz => ?_]
  · rfl
  · have := ns_bd hv hx hz
    rw [dn_le (by omega)]; omega
theorem srt_g (i : Nat) (x : CL) : srt (gI i x) = fS i x := by rw [srt_eq]; rfl
/-- Both sides make one list. -/
theorem join_eq {l : List CL} {i : Nat} (hv : clsB l = true) (hi : i + 1 < l.length) : (imTo l i l.length).map srt = spTo l i l.length := by
  unfold imTo spTo
  rw [if_neg (show ¬ l.length ≤ i by omega), if_neg (show ¬ l.length = i + 1 by omega), if_neg (show ¬ l.length ≤ i by omega), List.map_append, List.map_append, List.map_map, List.map_map, List.map_cons, List.map_nil, mg_eq hv hi]
  have e : srt ∘ gI i = fS i := funext fun x => srt_g i x
  rw [e]
/-- JoinClauses' results. -/
def joinG0 (l : List CL) (i : Int) : Bool := clsB l && inB i 0 ((l.length : Int) - 2)
def joinG (l : List CL) (i : Int) : Bool := joinG0 l i && clsB (spTo l i.toNat l.length)
def joinL (l : List CL) (i : Int) : List CL := if joinG l i then spTo l i.toNat l.length else []
theorem joinG0_iff {l : List CL} {i : Int} (h : joinG0 l i = true) : clsB l = true ∧ ∃ k : Nat, i = (k : Int) ∧ k + 1 < l.length := by
  unfold joinG0 at h
  rw [Bool.and_eq_true] at h
  have := inB_iff.1 h.2
  obtain ⟨k, hk⟩ := Int.eq_ofNat_of_zero_le this.1
  exact ⟨h.1, k, hk, by omega⟩

/-! ### the law: the joined list has the words of both -/
theorem fS_ws (i : Nat) (l : List CL) : (l.map (fS i)).flatMap (·.ws) = l.flatMap (·.ws) := by
  rw [List.flatMap_map]; rfl
theorem split3 {l : List CL} {i : Nat} (hi : i + 1 < l.length) : l = l.take i ++ (at2 l i :: at2 l (i + 1) :: l.drop (i + 2)) := by
  have hx := List.getElem?_eq_getElem (show i < l.length by omega)
  have hy := List.getElem?_eq_getElem hi
  rw [at2_of hx, at2_of hy]
  conv => lhs; rw [← List.take_append_drop i l, List.drop_eq_getElem_cons (by omega), List.drop_eq_getElem_cons hi]
theorem join_ws {l : List CL} {i : Nat} (hi : i + 1 < l.length) : (spTo l i l.length).flatMap (·.ws) = l.flatMap (·.ws) := by
  unfold spTo
  rw [if_neg (show ¬ l.length ≤ i by omega), show min l.length i = i by omega, List.take_of_length_le (Nat.le_refl _), List.flatMap_append, List.flatMap_append, fS_ws, fS_ws]
  conv => rhs; rw [split3 hi]
  simp [List.flatMap_append, List.flatMap_cons, mgS]

end Go.Proofs.Ytndoapgalbljpaa
