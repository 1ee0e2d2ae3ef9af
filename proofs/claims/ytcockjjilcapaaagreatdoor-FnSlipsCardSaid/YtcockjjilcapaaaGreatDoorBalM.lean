/-
  YtcockjjilcapaaaGreatDoorBalM: ballots: LeadingChoice, the program's side. (Printed by wip/gen/balm.py.)
-/
import Derived.Test.YtcockjjilcapaaaGreatDoorBalL
namespace Go.Proofs.YtcockjjilcapaaaGreatDoor
open Go Go.RowKit Go.Sort
set_option linter.unusedVariables false

theorem fold_max : ∀ (l : List Int) (a : Int), a ≤ l.foldl max a ∧ (∀ x ∈ l, x ≤ l.foldl max a) ∧ (l.foldl max a = a ∨ l.foldl max a ∈ l)
  | [], a => ⟨Int.le_refl _, fun x h => by simp at h, .inl rfl⟩
  | y :: t, a => by
    obtain ⟨h1, h2, h3⟩ := fold_max t (max a y)
    rw [List.foldl_cons]
    refine ⟨by omega, fun x hx => ?_, ?_⟩
    · rcases List.mem_cons.1 hx with e | e
      · rw [e]; omega
      · exact h2 x e
    · rcases h3 with h3 | h3
      · rcases Int.le_total a y with h | h
        · rw [Int.max_eq_right h] at h3 ⊢; exact .inr (by rw [h3]; simp)
        · rw [Int.max_eq_left h] at h3 ⊢; exact .inl h3
      · exact .inr (List.mem_cons_of_mem _ h3)
theorem max_le {cs : List Int} : ∀ x ∈ cs, x ≤ Lib.maxOf cs := (fold_max cs _).2.1
theorem max_mem {cs : List Int} (h : cs ≠ []) : Lib.maxOf cs ∈ cs := by
  cases cs with
  | nil => exact absurd rfl h
  | cons y t =>
    rcases (fold_max (y :: t) y).2.2 with e | e
    · rw [show Lib.maxOf (y :: t) = (y :: t).foldl max y from rfl, e]; simp
    · exact e
theorem wins_at {cs : List Int} {g : Int} (h : g ∈ wins cs) : ∃ i : Nat, g = (i : Int) ∧ cs[i]? = some (Lib.maxOf cs) := by
  obtain ⟨i, x, _, hx, hf⟩ := fm_mem h
  unfold winF at hf
  split at hf
  · rename_i e
    injection hf with hf
    exact ⟨i, hf.symm, by rw [hx, e]⟩
  · cases hf
theorem fm_win_len (cs : List Int) : ∀ k, (fm (winF cs) cs k).length = ((cs.take k).filter (fun x => decide (x = Lib.maxOf cs))).length
  | 0 => rfl
  | k + 1 => by
    have h := fm_win_len cs k
    cases hx : cs[k]? with
    | none => unfold fm at *; rw [List.range_succ, List.filterMap_append, List.take_add_one, hx]; simp [hx, h]
    | some x =>
      rw [List.take_add_one, hx, List.filter_append, List.length_append, ← h]
      by_cases e : x = Lib.maxOf cs
      · rw [fm_yes hx (show winF cs k x = some (k : Int) by unfold winF; rw [if_pos e])]; simp [e]
      · rw [fm_no hx (show winF cs k x = none by unfold winF; rw [if_neg e])]; simp [e]
theorem wins_n (ps : List PR) : (wins (ps.map Prod.snd)).length = nOf (Lib.maxOf (ps.map Prod.snd)) ps := by
  unfold wins
  rw [fm_win_len, List.take_of_length_le (Nat.le_refl _), List.filter_map, List.length_map]
  rfl
structure Lead (ps : List PR) (s : LS) : Prop where
  most : ps ≠ [] → Lib.maxOf (ps.map Prod.snd) = s.most
  tie : ps ≠ [] → (s.tied = true ↔ 1 < (wins (ps.map Prod.snd)).length)
  ge : ps ≠ [] → 1 ≤ (wins (ps.map Prod.snd)).length
  one : ps ≠ [] → s.tied = false → ∀ i : Nat, (i : Int) ∈ wins (ps.map Prod.snd) → ps[i]? = some (s.best, s.most)
theorem lead_of {ps : List PR} (hp : ∀ p ∈ ps, 0 < p.2) : Lead ps (ldTo ps ps.length) := by
  have I := ldInv hp ps.length (Nat.le_refl _)
  rw [List.take_of_length_le (Nat.le_refl _)] at I
  have hm : ps ≠ [] → Lib.maxOf (ps.map Prod.snd) = (ldTo ps ps.length).most := fun hne => by
    obtain ⟨p, hp1, e⟩ := I.has hne
    have h1 := max_le (cs := ps.map Prod.snd) p.2 (List.mem_map_of_mem hp1)
    have h2 := max_mem (cs := ps.map Prod.snd) (by simpa using hne)
    obtain ⟨q, hq, e2⟩ := List.mem_map.1 h2
    have h3 := I.le q hq
    omega
  have hw : ps ≠ [] → (wins (ps.map Prod.snd)).length = nOf (ldTo ps ps.length).most ps := fun hne => by rw [wins_n, hm hne]
  have hge : ps ≠ [] → 1 ≤ (wins (ps.map Prod.snd)).length := fun hne => by
    rw [hw hne]
    obtain ⟨p, hp1, e⟩ := I.has hne
    unfold nOf
    exact List.length_pos_of_mem (List.mem_filter.2 ⟨hp1, by simp [e]⟩)
  refine ⟨hm, fun hne => by rw [hw hne]; exact I.tie hne, hge, fun hne ht i hi => ?_⟩
  obtain ⟨i', e, hx⟩ := wins_at hi
  obtain rfl : i = i' := by omega
  rw [hm hne, List.getElem?_map] at hx
  cases hpi : ps[i]? with
  | none => rw [hpi] at hx; cases hx
  | some p =>
    rw [hpi] at hx
    have hx' : p.2 = (ldTo ps ps.length).most := by simpa using hx
    have h1 := I.one ht
    have hn1 : nOf (ldTo ps ps.length).most ps = 1 := by
      have h2 : ¬ 1 < nOf (ldTo ps ps.length).most ps := fun h => by have := (I.tie hne).2 h; rw [ht] at this; cases this
      have h3 := hge hne
      rw [hw hne] at h3
      omega
    unfold nOf at hn1
    have a1 : p ∈ ps.filter (fun p => decide (p.2 = (ldTo ps ps.length).most)) := List.mem_filter.2 ⟨List.mem_of_getElem? hpi, by simp [hx']⟩
    have a2 : ((ldTo ps ps.length).best, (ldTo ps ps.length).most) ∈ ps.filter (fun p => decide (p.2 = (ldTo ps ps.length).most)) := List.mem_filter.2 ⟨h1, by simp⟩
    obtain ⟨z, hz⟩ := List.length_eq_one_iff.1 hn1
    rw [hz] at a1 a2
    simp at a1 a2
    rw [a1, ← a2]

set_option maxRecDepth 100000 in
set_option maxHeartbeats 1000000 in
theorem implLead_any (A : Option Addr) (n c : Nat) (l : List BA) (B0 : Option Addr) (m d0 : Nat) (r : List Int) (w : World) (ha : Rd baV 2 w A n c l) (hb : Rd inV 1 w B0 m d0 r) (hn : n ≤ 1048576) (hg : ∀ x ∈ l, BaSz x) :
    Calls Tryz.prog 12 #[.slice A n c, .slice B0 m d0] w fun e w' => e = .returned (.tuple #[.string (leaC l r), .int .i64 (leaN l r), .bool (leaB l r)]) ∧ Below w.heap.size w w' := by
  have HL := Lib.hid ha.len
  go_enter Tryz.func12, Tryz.ntmps12
  go_wp2_with fail
  refine (isPoll_any _ _ _ _ _ _ _ _ _ ha hb hg).mono ?_
  rintro e w1 ⟨rfl, b1⟩
  cases h1 : pollB l r
  · have E := Lib.hid (lea_no h1)
    clear ha hb
    go_wp2
    go_ret3
    exact ⟨ret_sib E.out.2.1.symm E.out.2.2.symm E.out.1.symm, b1⟩
  have E := Lib.hid h1
  clear h1
  go_wp2_with fail
  refine (countChoices_any _ _ _ l _ _ _ r _ (ha.below b1) (hb.below b1) hn).mono ?_
  rintro e w2 ⟨⟨A1, q, d1, A2, d2, rfl, o1, o2⟩, b2⟩
  have t2 := below_trans b1 b2
  have CE := Lib.hid (couL_yes E.out)
  rw [← CE.out] at o1 o2
  have hq : q ≤ n := by have h9 := o1.len; simp only [List.length_map] at h9; rw [← h9, ← HL.out]; exact couL_len l r
  have QL := Lib.hid (show (couL l r).length = q by have h9 := o1.len; simpa using h9)
  have PS : Hid (∀ p ∈ couL l r, 0 < p.2) := fun p hp => by
    have h9 := hp
    rw [CE.out] at h9
    exact (cnt_le_len h9).1
  have LD := Lib.hid (lead_of PS.out)
  have O1 := Lib.hid o1
  have O2 := Lib.hid o2
  clear ha hb o1 o2 b1 b2
  by_cases h0 : q = 0
  · have F : Hid (leaB l r = false ∧ leaC l r = ⟨#[]⟩ ∧ leaN l r = 0) := by
      have h9 : couL l r = [] := List.eq_nil_of_length_eq_zero (by rw [QL.out, h0])
      have : leaS l r = ⟨⟨#[]⟩, 0, true⟩ := by unfold leaS; rw [h9]; rfl
      show _ ∧ _; simp [leaB, leaC, leaN, this]
    have h0' : ((q : Int) == 0) = true := by rw [h0]; rfl
    clear h0
    go_wp2
    go_ret3
    exact ⟨ret_sib F.out.2.1.symm F.out.2.2.symm F.out.1.symm, t2⟩
  have h0' : ((q : Int) == 0) = false := by simp; omega
  have NE : Hid (couL l r ≠ []) := fun e => h0 (by rw [← QL.out, e]; rfl)
  go_wp2_with fail
  refine (winners_any _ _ _ _ _ (O2.out.rd inV_len) (by omega)).mono ?_
  rintro e w3 ⟨⟨B3, q3, d3, rfl, o3⟩, b3⟩
  have t3 := below_trans t2 b3
  have WL := Lib.hid o3.len
  have O1b := Lib.hid (O1.out.below b3)
  have O2b := Lib.hid (O2.out.below b3)
  clear o3
  by_cases h1 : (1 : Int) < (q3 : Int)
  · have F : Hid (leaB l r = false ∧ leaC l r = ⟨#[]⟩ ∧ leaN l r = 0) := by
      have : (leaS l r).tied = true := (LD.out.tie NE.out).2 (by rw [WL.out]; omega)
      show _ ∧ _; simp [leaB, leaC, leaN, this]
    go_wp2
    go_ret3
    exact ⟨ret_sib F.out.2.1.symm F.out.2.2.symm F.out.1.symm, t3⟩
  have TF := Lib.hid (show (leaS l r).tied = false by
    cases ht : (leaS l r).tied
    · rfl
    · have := (LD.out.tie NE.out).1 ht; rw [WL.out] at this; omega)
  have F : Hid (leaB l r = true ∧ leaC l r = (leaS l r).best ∧ leaN l r = (leaS l r).most) := by show _ ∧ _; simp [leaB, leaC, leaN, TF.out]
  go_wp2_with fail
  refine (winners_any _ _ _ _ _ (O2b.out.rd inV_len) (by omega)).mono ?_
  rintro e w4 ⟨⟨B4, q4, d4, rfl, o4⟩, b4⟩
  have t4 := below_trans t3 b4
  have hq4 : 0 < q4 := by rw [← o4.len]; exact LD.out.ge NE.out
  obtain ⟨b5, o5, y, rfl, hy, c5⟩ := (o4.rd inV_len).in hq4
  obtain ⟨i, rfl, hxi⟩ := wins_at (List.mem_of_getElem? hy)
  have hpi := LD.out.one NE.out TF.out i (List.mem_of_getElem? hy)
  have hiq : i < q := by rw [← QL.out]; exact (List.getElem?_eq_some_iff.1 hpi).1
  obtain ⟨b6, o6, z, rfl, hz, c6⟩ := ((O1b.out.below b4).rd stV_len).st hiq
  obtain ⟨b7, o7, v, rfl, hv, c7⟩ := ((O2b.out.below b4).rd inV_len).in hiq
  have hz2 : z = (leaS l r).best := by rw [List.getElem?_map, hpi] at hz; injection hz with hz; exact hz.symm
  have hv2 : v = (leaS l r).most := by rw [List.getElem?_map, hpi] at hv; injection hv with hv; exact hv.symm
  have Z := Lib.hid hz2
  have V := Lib.hid hv2
  have hi0 : (0 : Int) ≤ (i : Int) := by omega
  have hiq' : (i : Int) < (q : Int) := by omega
  simp only [Nat.add_zero] at c5
  clear o4 hy hxi hpi hz hv hz2 hv2
  go_wp2_with fail
  go_quiet (fail)
  go_wp2
  go_ret3
  exact ⟨ret_sib (by rw [F.out.2.1, Z.out]) (by rw [F.out.2.2, V.out]) F.out.1.symm, by first | exact t4 | exact below_drewN t4 _⟩

end Go.Proofs.YtcockjjilcapaaaGreatDoor

