/-
  YtndoapgalbljpaaPartL: the laws of divisions: a part holds all that depends on its clauses, the parts hold every clause once, and joined clauses have the words of both. No program in sight.
-/
import Derived.Test.YtndoapgalbljpaaJoiN
import Derived.Test.YtndoapgalbljpaaColM
import Derived.Test.YtndoapgalbljpaaDivI
import Derived.Test.YtndoapgalbljpaaDivD
namespace Go.Proofs.Ytndoapgalbljpaa
open Go Go.RowKit Go.Sort
set_option linter.unusedVariables false

theorem ed_all {l : List CL} (hv : clsB l = true) : ∀ e ∈ edTo l l.length, e.1 < l.length ∧ e.2 < l.length := fun e he => by
  have := ed_bd hv he
  exact ⟨this.1, by omega⟩
theorem prt_fixed {l : List CL} (hv : clsB l = true) : Fixed (edTo l l.length) l.length (prtM l) := by
  have := fixed_fold (n := l.length) (edTo l l.length) [] (idM l.length) (by simpa using ed_all hv) (fixed_id l.length)
  simpa [prtM] using this
theorem ed_mem {l : List CL} (hv : clsB l = true) {k j : Nat} (h : (j : Int) ∈ nd l k) : (k, j) ∈ edTo l l.length := by
  unfold edTo
  rw [List.mem_flatMap]
  refine ⟨k, List.mem_range.2 (nd_bd hv h).2.2, ?_⟩
  unfold edN
  exact List.mem_map.2 ⟨(j : Int), h, by simp⟩
theorem dep_conn {l : List CL} (hv : clsB l = true) {k j : Nat} (h : Dep l k j) : Conn (edTo l l.length) k j := by
  induction h with
  | one h => exact Conn.fwd .refl (ed_mem hv h)
  | step h _ ih => exact (Conn.fwd .refl (ed_mem hv h)).trans ih
theorem pTo_at {F : List Int} {n : Nat} : ∀ {i : Nat} {p : List Int}, p ∈ pTo F n i → ∃ m, m < i ∧ p = pAt F m n
  | 0, p, h => by simp [pTo] at h
  | i + 1, p, h => by
    unfold pTo at h
    split at h
    · obtain ⟨m, hm, e⟩ := pTo_at h; exact ⟨m, by omega, e⟩
    · rcases List.mem_append.1 h with h | h
      · obtain ⟨m, hm, e⟩ := pTo_at h; exact ⟨m, by omega, e⟩
      · rw [List.mem_singleton] at h; exact ⟨i, by omega, h⟩
theorem sep_cls {l : List CL} {p : List Int} (h : p ∈ sepL l) : clsB l = true := by
  cases hv : clsB l
  · rw [sepL_no hv] at h; cases h
  · rfl
/-- A part holds all that depends on its clauses. -/
theorem part_dep {l : List CL} {p : List Int} (hp : p ∈ sepL l) {x : Int} (hx : x ∈ p) : depOk l x = true ∧ ∀ y ∈ depR l x, y ∈ p := by
  have hv := sep_cls hp
  rw [sepL_yes hv] at hp
  obtain ⟨m, hm, rfl⟩ := pTo_at hp
  unfold pAt at hx ⊢
  obtain ⟨h0, h1, h2⟩ := mem_chP.1 hx
  obtain ⟨k, rfl⟩ := Int.eq_ofNat_of_zero_le h0
  have hok : depOk l (k : Int) = true := by
    unfold depOk
    rw [hv, Bool.true_and]
    exact inB_t (by omega) (by omega)
  refine ⟨hok, fun y hy => ?_⟩
  rw [depR_yes hok] at hy
  unfold depL at hy
  obtain ⟨y0, y1, y2⟩ := mem_chP.1 hy
  refine mem_chP.2 ⟨y0, y1, ?_⟩
  have hd := dep_conn hv (depB_iff.1 y2)
  have hf := (prt_fixed hv).const hd
  rw [hf]
  simpa using h2
theorem chP_split : ∀ (n : Nat) (p q r : Nat → Bool), (∀ k, k < n → (p k = (q k || r k)) ∧ (q k && r k) = false) → (chP n p).length = (chP n q).length + (chP n r).length
  | 0, p, q, r, _ => rfl
  | n + 1, p, q, r, h => by
    have ih := chP_split n p q r fun k hk => h k (by omega)
    have hn := h n (by omega)
    rw [chP_succ, chP_succ, chP_succ, List.length_append, List.length_append, List.length_append, ih, hn.1]
    cases hq : q n <;> cases hr : r n <;> simp_all <;> omega
theorem chP_all : ∀ (n : Nat) (p : Nat → Bool), (∀ k, k < n → p k = true) → (chP n p).length = n
  | 0, p, _ => rfl
  | n + 1, p, h => by
    rw [chP_succ, List.length_append, chP_all n p fun k hk => h k (by omega), h n (by omega)]
    rfl
theorem tot_app (a b : List (List Int)) : totI (a ++ b) = totI a + totI b := by unfold totI; rw [List.map_append, List.sum_append]
theorem tot_pTo (F : List Int) (n : Nat) : ∀ i, totI (pTo F n i) = (chP n (fun m => decide (0 ≤ F.getD m 0 ∧ F.getD m 0 < (i : Int)))).length
  | 0 => by
    rw [chP_none fun k _ => decide_eq_false (by omega)]
    rfl
  | i + 1 => by
    have ih := tot_pTo F n i
    have hs := chP_split n (fun m => decide (0 ≤ F.getD m 0 ∧ F.getD m 0 < ((i + 1 : Nat) : Int))) (fun m => decide (0 ≤ F.getD m 0 ∧ F.getD m 0 < (i : Int))) (fun m => decide (F.getD m 0 = (i : Int))) fun k _ => by
      constructor
      · rw [Bool.eq_iff_iff, Bool.or_eq_true, decide_eq_true_iff, decide_eq_true_iff, decide_eq_true_iff]; omega
      · rw [Bool.eq_false_iff, ne_eq, Bool.and_eq_true, decide_eq_true_iff, decide_eq_true_iff]; omega
    rw [pTo, hs, ← ih]
    split
    · rename_i h0
      have : (chP n (fun m => decide (F.getD m 0 = (i : Int)))).length = 0 := h0
      omega
    · rw [tot_app]
      have : totI [pAt F i n] = (chP n (fun m => decide (F.getD m 0 = (i : Int)))).length := by simp [totI, sizI, pAt]
      omega
/-- The parts hold every clause once. -/
theorem part_sum {l : List CL} (hv : clsB l = true) : totI (sepL l) = l.length := by
  rw [sepL_yes hv, tot_pTo]
  have hF := prt_fixed hv
  refine chP_all _ _ fun k hk => decide_eq_true ?_
  have h1 := (hF.conn k hk).1
  have h2 := hF.le k hk
  omega

/-! ### all clauses adopted: all words -/
theorem st_all {l : List CL} (hv : clsB l = true) : ∀ k, k ≤ l.length → stTo l (List.replicate l.length true) k = List.replicate k true
  | 0, _ => rfl
  | k + 1, hk => by
    have ih := st_all hv k (by omega)
    unfold stTo
    rw [ih, List.replicate_succ']
    congr 1
    have h1 : (List.replicate l.length true).getD k false = true := by simp [List.getD, show k < l.length by omega]
    have h2 : ((nd l k).all fun y => (List.replicate k true).getD y.toNat false) = true := by
      rw [List.all_eq_true]
      intro y hy
      have := nd_bd hv hy
      simp [List.getD, show y.toNat < k by omega]
    rw [h1, h2]; rfl
theorem txt_rep {l : List CL} : ∀ k, k ≤ l.length → (chs (List.replicate k true)).flatMap (wsOf l) = (l.take k).flatMap (·.ws)
  | 0, _ => rfl
  | k + 1, hk => by
    have ih := txt_rep (l := l) k (by omega)
    have hx := List.getElem?_eq_getElem (show k < l.length by omega)
    rw [List.replicate_succ', chs_snoc, List.flatMap_append, ih, List.length_replicate, List.take_add_one, List.flatMap_append, hx]
    simp [wsOf, hx]
theorem txt_every {l : List CL} (hv : clsB l = true) : txtB l (List.replicate l.length true) = l.flatMap (·.ws) := by
  unfold txtB stB
  rw [st_all hv _ (Nat.le_refl _), txt_rep _ (Nat.le_refl _), List.take_of_length_le (Nat.le_refl _)]
theorem vot_every {l : List CL} (hv : clsB l = true) : votB l (List.replicate l.length true) = true := by simp [votB, hv]
/-- Joined clauses have the words of both. -/
theorem join_law {l : List CL} {i : Int} (h : joinG l i = true) :
    (joinL l i).length + 1 = l.length ∧ divB (joinL l i) (List.replicate (joinL l i).length true) = divB l (List.replicate l.length true) ∧ divL (joinL l i) (List.replicate (joinL l i).length true) = divL l (List.replicate l.length true) := by
  have h0 := h
  unfold joinG at h0
  rw [Bool.and_eq_true] at h0
  obtain ⟨hv, I, rfl, hI⟩ := joinG0_iff h0.1
  have hy := joinL_cls l (I : Int)
  have hl : joinL l (I : Int) = spTo l I l.length := by unfold joinL; rw [if_pos h]; rfl
  have hw : (joinL l (I : Int)).flatMap (·.ws) = l.flatMap (·.ws) := by rw [hl]; exact join_ws hI
  have ht : txtB (joinL l (I : Int)) (List.replicate (joinL l (I : Int)).length true) = txtB l (List.replicate l.length true) := by rw [txt_every hy, txt_every hv, hw]
  have hd : divB (joinL l (I : Int)) (List.replicate (joinL l (I : Int)).length true) = divB l (List.replicate l.length true) := by unfold divB; rw [ht, vot_every hy, vot_every hv]
  refine ⟨?_, hd, ?_⟩
  · rw [hl, spTo_len (Nat.le_refl _) hI, if_neg (by omega)]; omega
  · unfold divL; rw [hd, ht]
theorem joinL_sz {l : List CL} {i : Int} (hg : ∀ x ∈ l, ClSz x) : ∀ x ∈ joinL l i, ClSz x := by
  cases h : joinG l i
  · intro x hx
    unfold joinL at hx
    rw [h] at hx
    cases hx
  · have h0 := h
    unfold joinG at h0
    rw [Bool.and_eq_true] at h0
    obtain ⟨hv, I, rfl, hI⟩ := joinG0_iff h0.1
    have hl : joinL l (I : Int) = spTo l I l.length := by unfold joinL; rw [if_pos h]; rfl
    rw [hl, ← join_eq hv hI]
    intro x hx
    obtain ⟨y, hy, rfl⟩ := List.mem_map.1 hx
    exact fun s hs => im_sz hv hg hI y hy s hs
/-- A row that grows does not move into a block that lay there before. -/
theorem apart_push {A B B' : Option Addr} {n : Nat} (h : blockOf A = none ∨ blockOf A ≠ blockOf B) (hl : ∀ k, blockOf A = some k → k < n) (hat : ∀ k, k < n → blockOf B ≠ some k → blockOf B' ≠ some k) : blockOf A = none ∨ blockOf A ≠ blockOf B' := by
  cases hA : blockOf A with
  | none => exact .inl rfl
  | some k => exact .inr fun e => hat k (hl k hA) (fun e2 => by
      rw [hA] at h
      rcases h with h | h
      · cases h
      · exact h e2.symm) e.symm

end Go.Proofs.Ytndoapgalbljpaa
