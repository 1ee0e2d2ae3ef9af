/-
  YtcockjjilcapaaaGreatDoorBalX: ballots: the plain laws of the great laws on ballots and slips. No program in sight.
-/
import Derived.Test.YtcockjjilcapaaaGreatDoorBalM
import Derived.Test.YtcockjjilcapaaaGreatDoorBalG
import Derived.Test.YtcockjjilcapaaaGreatDoorBalD
import Derived.Test.YtcockjjilcapaaaGreatDoorUniq
namespace Go.Proofs.YtcockjjilcapaaaGreatDoor
open Go Go.RowKit Go.Sort
set_option linter.unusedVariables false

/-! ### all good ballots are counted once -/
theorem ins_sum (c : ByteArray) : ∀ ps : List PR, ((insC c ps).map Prod.snd).sum = (ps.map Prod.snd).sum + 1
  | [] => by simp [insC]
  | p :: t => by
    unfold insC
    split
    · rw [List.map_cons, List.sum_cons, List.map_cons, List.sum_cons, ins_sum c t]; omega
    · split
      · simp only [List.map_cons, List.sum_cons]; omega
      · simp only [List.map_cons, List.sum_cons]; omega
theorem fold_sum : ∀ (xs : List ByteArray) (ps : List PR), ((xs.foldl cntStep ps).map Prod.snd).sum + ((xs.filter emp).length : Int) = (ps.map Prod.snd).sum + (xs.length : Int)
  | [], ps => by simp
  | c :: t, ps => by
    have h := fold_sum t (cntStep ps c)
    rw [List.foldl_cons, List.length_cons]
    unfold cntStep at h ⊢
    by_cases he : emp c = true
    · rw [if_pos he] at h ⊢
      rw [List.filter_cons_of_pos he, List.length_cons]
      omega
    · rw [if_neg he] at h ⊢
      rw [List.filter_cons_of_neg he]
      rw [ins_sum] at h
      omega
theorem cnt_sum (xs : List ByteArray) : ((cntP xs).map Prod.snd).sum + ((xs.filter emp).length : Int) = (xs.length : Int) := by
  have := fold_sum xs []
  simpa [cntP] using this
theorem cou_sum {l : List BA} {r : List Int} (h : pollB l r = true) : ((couL l r).map Prod.snd).sum + blaN l r = ((gooL l r).length : Int) := by
  rw [couL_yes h, blaN_yes h, gooL_yes h, cnt_sum]
  unfold chL
  rw [List.length_map]

/-! ### a box in another order has the same counts -/
def goodB (l : List BA) (r : List Int) (x : BA) : Bool := r.contains x.code && decide ((l.filter (fun y => y.code == x.code)).length = 1)
theorem goodF_eq (l : List BA) (r : List Int) (i : Nat) (x : BA) : goodF l r i x = if goodB l r x then some (i : Int) else none := by
  unfold goodF goodB cntTo
  rw [List.take_length]
theorem chOf_at {l : List BA} {i : Nat} {x : BA} (h : l[i]? = some x) : chOf l (i : Int) = x.ch := by simp [chOf, h]
theorem ch_upto (l : List BA) (r : List Int) : ∀ k, k ≤ l.length → (fm (goodF l r) l k).map (chOf l) = ((l.take k).filter (goodB l r)).map (·.ch)
  | 0, _ => by simp [fm_zero]
  | k + 1, hk => by
    obtain ⟨x, hx⟩ : ∃ x, l[k]? = some x := ⟨l[k], List.getElem?_eq_getElem (by omega)⟩
    have ih := ch_upto l r k (by omega)
    have ht : l.take (k + 1) = l.take k ++ [x] := by rw [List.take_add_one, hx]; rfl
    rw [ht, List.filter_append, List.map_append, ← ih]
    by_cases hg : goodB l r x = true
    · rw [fm_yes hx (by rw [goodF_eq, if_pos hg]), List.map_append, List.filter_cons_of_pos hg]
      simp [chOf_at hx]
    · rw [fm_no hx (by rw [goodF_eq, if_neg hg]), List.filter_cons_of_neg hg]
      simp
theorem chL_eq (l : List BA) (r : List Int) : chL l r = (l.filter (goodB l r)).map (·.ch) := by
  have h := ch_upto l r l.length (Nat.le_refl _)
  rw [List.take_length] at h
  exact h
theorem goodB_perm {l m : List BA} (h : m.Perm l) (r : List Int) : goodB m r = goodB l r := by
  funext x
  unfold goodB
  rw [(h.filter _).length_eq]
theorem chL_perm {l m : List BA} (h : m.Perm l) (r : List Int) : (chL m r).Perm (chL l r) := by
  rw [chL_eq, chL_eq, goodB_perm h]
  exact (h.filter _).map _
theorem all_perm {α : Type} {p : α → Bool} {l m : List α} (h : m.Perm l) : m.all p = l.all p := by
  rw [Bool.eq_iff_iff, List.all_eq_true, List.all_eq_true]
  exact ⟨fun g x hx => g x (h.mem_iff.2 hx), fun g x hx => g x (h.mem_iff.1 hx)⟩
theorem box_perm {l m : List BA} (h : m.Perm l) : boxB m = boxB l := by unfold boxB; rw [all_perm h, h.length_eq]
theorem poll_perm {l m : List BA} (h : m.Perm l) (r : List Int) : pollB m r = pollB l r := by unfold pollB; rw [box_perm h]
theorem cou_perm {l m : List BA} (h : m.Perm l) (r : List Int) : couL m r = couL l r := by
  unfold couL
  rw [poll_perm h]
  split
  · exact cnt_perm (chL_perm h r)
  · rfl

/-! ### good ballots are neither stray nor unused -/
theorem good_out {l : List BA} {r : List Int} (hp : pollB l r = true) {k : Nat} {g : Int} (h : (gooL l r)[k]? = some g) :
    ∃ (i : Nat) (x : BA), g = (i : Int) ∧ l[i]? = some x ∧ ¬ x.code ∈ strL l r ∧ ¬ x.code ∈ unuL l r := by
  rw [gooL_yes hp] at h
  obtain ⟨i, x, _, hx, hf⟩ := fm_mem (List.mem_of_getElem? h)
  unfold goodF at hf
  split at hf
  · rename_i hc
    injection hf with hf
    rw [Bool.and_eq_true] at hc
    refine ⟨i, x, hf.symm, hx, ?_, ?_⟩
    · rw [strL_yes hp]
      unfold strX sortI
      rw [(compact_sort_spec _).2, List.mem_filter]
      rintro ⟨_, hn⟩
      rw [hc.1] at hn
      cases hn
    · rw [unuL_yes hp]
      unfold unuX
      rw [List.mem_filter]
      rintro ⟨_, hn⟩
      have : (codes l).contains x.code = true := by
        rw [List.contains_iff_mem]
        exact List.mem_map.2 ⟨x, List.mem_of_getElem? hx, rfl⟩
      rw [this] at hn
      cases hn
  · cases hf

/-! ### no choice has more ballots than the leading one -/
theorem two_of_one {α : Type} {l : List α} (h : l.length ≤ 1) {a b : α} (ha : a ∈ l) (hb : b ∈ l) : a = b := by
  match l, h with
  | [], _ => cases ha
  | [c], _ => rw [List.mem_singleton.1 ha, List.mem_singleton.1 hb]
  | c :: d :: t, h => simp at h
theorem lead_law {l : List BA} {r : List Int} (h : leaB l r = true) : ∀ p ∈ couL l r, p.2 ≤ leaN l r ∧ (p.2 = leaN l r → p.1 = leaC l r) := by
  have ht : (leaS l r).tied = false := by simpa [leaB] using h
  have hN : leaN l r = (leaS l r).most := by unfold leaN; rw [ht]; rfl
  have hC : leaC l r = (leaS l r).best := by unfold leaC; rw [ht]; rfl
  have hp : ∀ p ∈ couL l r, 0 < p.2 := fun p hp => by
    unfold couL at hp
    split at hp
    · exact ((cnt_spec _).2.1 p hp).1
    · cases hp
  have I := ldInv hp (couL l r).length (Nat.le_refl _)
  rw [List.take_length] at I
  intro p hpm
  have hne : couL l r ≠ [] := List.ne_nil_of_mem hpm
  rw [hN, hC]
  refine ⟨I.le p hpm, fun e => ?_⟩
  have hone := I.one ht
  have hn : ¬ 1 < nOf (leaS l r).most (couL l r) := fun hh => by
    have := (I.tie hne).2 hh
    rw [show ldTo (couL l r) (couL l r).length = leaS l r from rfl, ht] at this
    cases this
  have hm1 : p ∈ (couL l r).filter (fun q => decide (q.2 = (leaS l r).most)) := List.mem_filter.2 ⟨hpm, decide_eq_true e⟩
  have hm2 : ((leaS l r).best, (leaS l r).most) ∈ (couL l r).filter (fun q => decide (q.2 = (leaS l r).most)) := List.mem_filter.2 ⟨hone, decide_eq_true rfl⟩
  have := two_of_one (by unfold nOf at hn; omega) hm1 hm2
  rw [this]

end Go.Proofs.YtcockjjilcapaaaGreatDoor
