/-
  YtmahfkimeclcbaaGreatDoorCorE: corrections: a sheet corrected many times: both CorrectAll.
-/
import Derived.Test.YtmahfkimeclcbaaGreatDoorCorD
import Derived.Deep.DeepCutAuto
namespace Go.Proofs.YtmahfkimeclcbaaGreatDoor
open Go Go.RowKit Go.Sort
set_option linter.unusedVariables false

/-- Corrections in order; none if one does not fit. -/
def allC : List ByteArray → List CO → Option (List ByteArray)
  | l, [] => some l
  | l, x :: t => if corrG l x then allC (corrL l x) t else none
theorem allC_yes {l : List ByteArray} {xs : List CO} {k : Nat} {x : CO} (hx : xs[k]? = some x) (h : corrG l x = true) : allC l (xs.drop k) = allC (corrL l x) (xs.drop (k + 1)) := by
  rw [List.drop_eq_getElem_cons (List.getElem?_eq_some_iff.1 hx).1, (List.getElem?_eq_some_iff.1 hx).2, allC, if_pos h]
theorem allC_no {l : List ByteArray} {xs : List CO} {k : Nat} {x : CO} (hx : xs[k]? = some x) (h : corrG l x = false) : allC l (xs.drop k) = none := by
  rw [List.drop_eq_getElem_cons (List.getElem?_eq_some_iff.1 hx).1, (List.getElem?_eq_some_iff.1 hx).2, allC, if_neg (by simp [h])]
theorem allC_end {l : List ByteArray} {xs : List CO} {k : Nat} (h : xs.length ≤ k) : allC l (xs.drop k) = some l := by
  rw [List.drop_eq_nil_of_le h]; rfl
def allOK (l : List ByteArray) (xs : List CO) : Bool := sheetB l && decide (xs.length ≤ 10)
/-- CorrectAll's results. -/
def allG (l : List ByteArray) (xs : List CO) : Bool := allOK l xs && (allC l xs).isSome
def allL (l : List ByteArray) (xs : List CO) : List ByteArray := if allOK l xs then (allC l xs).getD [] else []
theorem allL_no {l : List ByteArray} {xs : List CO} (h : allOK l xs = false) : allL l xs = [] := by simp [allL, h]
theorem allG_no {l : List ByteArray} {xs : List CO} (h : allOK l xs = false) : allG l xs = false := by simp [allG, h]
theorem allL_none {l : List ByteArray} {xs : List CO} (h : allC l xs = none) : allL l xs = [] := by unfold allL; rw [h]; split <;> rfl
theorem allG_none {l : List ByteArray} {xs : List CO} (h : allC l xs = none) : allG l xs = false := by unfold allG; rw [h]; simp
theorem allL_some {l r : List ByteArray} {xs : List CO} (h : allC l xs = some r) (h1 : allOK l xs = true) : allL l xs = r := by unfold allL; rw [h, if_pos h1]; rfl
theorem allG_some {l r : List ByteArray} {xs : List CO} (h : allC l xs = some r) (h1 : allOK l xs = true) : allG l xs = true := by unfold allG; rw [h, h1]; rfl
theorem corrL_len {l : List ByteArray} {x : CO} (h : corrG l x = true) : (corrL l x).length = l.length := by rw [corrL_yes h]; simp
theorem corrL_sheet {l : List ByteArray} {x : CO} (hs : sheetB l = true) (h : corrG l x = true) : sheetB (corrL l x) = true := by
  unfold sheetB at hs ⊢
  rw [Bool.and_eq_true] at hs ⊢
  refine ⟨?_, by rw [corrL_len h]; exact hs.2⟩
  rw [corrL_yes h, List.all_eq_true]
  intro y hy
  rcases List.mem_or_eq_of_mem_set hy with hy | rfl
  · exact List.all_eq_true.1 hs.1 y hy
  · unfold corrG impG at h
    simp only [Bool.and_eq_true] at h
    exact h.2.2
theorem sheet_sz {l : List ByteArray} (h : sheetB l = true) : ∀ s ∈ l, s.size ≤ 1048576 := fun s hs => by
  unfold sheetB at h
  rw [Bool.and_eq_true] at h
  have := List.all_eq_true.1 h.1 s hs
  unfold lineB at this
  simp only [Bool.and_eq_true, decide_eq_true_eq] at this
  omega
theorem allC_len : ∀ {xs : List CO} {l r : List ByteArray}, allC l xs = some r → r.length = l.length
  | [], l, r, h => by simp only [allC] at h; injection h with h; rw [h]
  | x :: t, l, r, h => by
    rw [allC] at h
    cases hc : corrG l x
    · rw [hc] at h; simp at h
    · rw [hc, if_pos rfl] at h
      rw [allC_len h, corrL_len hc]
theorem allL_len (l : List ByteArray) (xs : List CO) : (allL l xs).length ≤ l.length := by
  unfold allL
  split
  · cases h : allC l xs with
    | none => simp
    | some r => simp [allC_len h]
  · simp

set_option maxRecDepth 100000 in
set_option maxHeartbeats 2000000 in
theorem implCorrectAll_any (A : Option Addr) (n c : Nat) (l : List ByteArray) (B : Option Addr) (m d : Nat) (xs : List CO) (mx : Int) (w : World) (ha : Rd stV 1 w A n c l) (hb : Rd coV 3 w B m d xs) (hn : n ≤ 1048576) (hg : ∀ s ∈ l, s.size ≤ 1048576) (hx : ∀ s ∈ xs, s.old.size ≤ 1048576 ∧ s.new.size ≤ 1048576) (hM : w.cell? ⟨0, 0, none⟩ = some (.int .i64 mx)) :
    Calls Tryz.prog 41 #[.slice A n c, .slice B m d] w fun e w' => (∃ B q d, e = .returned (.tuple #[.slice B q d, .bool (allG l xs)]) ∧ Own stV 1 w' w.heap.size 9 B q d (allL l xs)) ∧ Below w.heap.size w w' := by
  obtain ⟨i0, hi, hz0, hz1, hz2⟩ := info_parts Tryz.infoSt'
  have HL := Lib.hid ha.len
  have HX := Lib.hid hb.len
  have hmm := hb.le
  have hgm : ∀ s ∈ l, s.size ≤ maxLen := fun s hs => by have := hg s hs; unfold maxLen; omega
  go_enter Tryz.func41, Tryz.ntmps41
  go_wp2_with fail
  refine (implIsSheet_any _ _ _ _ _ ha hgm).mono ?_
  rintro e w1 ⟨rfl, rfl⟩
  cases h2 : sheetB l
  · have E := Lib.hid (show allOK l xs = false by unfold allOK; rw [h2]; rfl)
    go_wp2
    go_ret2
    exact ⟨⟨_, _, _, ret_sl_bool (allG_no E.out).symm, by rw [allL_no E.out]; exact Own.nil _ _ _⟩, Below.refl _ _⟩
  have H2 := Lib.hid h2
  by_cases h3 : (10 : Int) < m
  · have E := Lib.hid (show allOK l xs = false by unfold allOK; rw [HX.out, h2]; simp; omega)
    clear ha hb hM hg hx hgm
    go_wp2
    go_ret2
    exact ⟨⟨_, _, _, ret_sl_bool (allG_no E.out).symm, by rw [allL_no E.out]; exact Own.nil _ _ _⟩, Below.refl _ _⟩
  have EO := Lib.hid (show allOK l xs = true by unfold allOK; rw [HX.out, h2]; simp; omega)
  clear h2 hgm
  go_wp2_with ((
      at_builtin
      refine wpList_pushAll rfl _ _ _ rfl w.heap.size 9 i0 (.string ByteArray.empty) 1 16 Tryz.underlying35 hi hz0 hz1 hz2 rfl (by omega) stV stV_len one_st _ 0 0 [] rfl (Own.empty stV 1 _ 9) _ n c l rfl (ha.alloc _) (by simp only [maxLen]; omega) (by omega) (by first | simp; done | (simp; omega)) ?_
      intro B1 d1 w1 o1 g1
      simp only [Nat.zero_add, List.nil_append] at o1
      have b1 : Below w.heap.size w w1 := (below_alloc _).grown g1 (by simp) (fun k hk => by simp [blockOf] at hk; omega)
      have ho : Own stV 1 w1 w.heap.size 9 B1 n d1 l := o1))
  clear o1 g1
  go_loopw [6, 24] (fun v i wr => ∃ (k : Nat) (cur : List ByteArray), k ≤ m ∧ i = .int .i64 k ∧ cur.length = n ∧ sheetB cur = true ∧ allC l xs = allC cur (xs.drop k) ∧ (∃ B' d', v = .slice B' n d' ∧ Own stV 1 wr w.heap.size 9 B' n d' cur) ∧ Below w.heap.size w wr) (fun _ i _ => m - (intOf i).toNat)
  case atStart => exact ⟨0, l, Nat.zero_le _, rfl, HL.out, H2.out, rfl, ⟨_, _, rfl, ho⟩, b1⟩
  case round =>
    clear ho b1
    obtain ⟨k, cur, hk, rfl, hcl, hcs, hall, ⟨B', d', rfl, ho⟩, hbw⟩ := hrel
    have HA := Lib.hid hall
    have HC := Lib.hid hcs
    have HCL := Lib.hid hcl
    clear hall hcs hcl
    by_cases hlt : k < m
    · obtain ⟨b1, o1, x, rfl, hs, c0, c1, c2⟩ := (hb.below hbw).co hlt
      have hxs := hx x (List.mem_of_getElem? hs)
      have HS := Lib.hid hs
      clear hs
      have hMr := Lib.hid (cell_below hbw hM)
      have hcr := (ho.rd stV_len)
      generalize hwo : wr = wo at *
      go_wp2_with fail
      refine (corrected_any _ _ _ _ x mx _ (hcr.alloc _) hn (sheet_sz HC.out) hxs.1 hxs.2 (cell_below (below_alloc _) hMr.out)).mono ?_
      rintro e w2 ⟨⟨B3, q3, d3, rfl, o3⟩, b2⟩
      have b3 := below_trans (below_alloc _) b2
      have t3 := below_trans hbw b3
      cases h6 : corrG cur x
      · have E := Lib.hid (show allC l xs = none by rw [HA.out]; exact allC_no HS.out h6)
        go_wp2
        go_ret2
        exact ⟨⟨_, _, _, ret_sl_bool (allG_none E.out).symm, by rw [allL_none E.out]; exact Own.nil _ _ _⟩, t3⟩
      · obtain rfl : q3 = n := by rw [← o3.len, corrL_len h6, HCL.out]
        have H6 := Lib.hid h6
        clear h6
        go_wp2
        go_roundw
        case rel => exact ⟨k + 1, corrL cur x, by omega, by go_num, by rw [corrL_len H6.out, HCL.out], corrL_sheet HC.out H6.out, by rw [HA.out]; exact allC_yes HS.out H6.out, ⟨_, _, rfl, o3.base_le (Nat.le_trans hbw.size (below_alloc _).size)⟩, t3⟩
        case measure => simp [intOf]; omega
    · obtain rfl : k = m := by omega
      have E := Lib.hid (show allC l xs = some cur by rw [HA.out]; exact allC_end (by rw [HX.out]; exact Nat.le_refl _))
      clear ha hb hM hg hx
      go_wp2
      go_ret2
      exact ⟨⟨_, _, _, ret_sl_bool (allG_some E.out EO.out).symm, by rw [allL_some E.out EO.out]; exact ho⟩, hbw⟩

set_option maxRecDepth 100000 in
set_option maxHeartbeats 2000000 in
theorem specCorrectAll_any (A : Option Addr) (n c : Nat) (l : List ByteArray) (B : Option Addr) (m d : Nat) (xs : List CO) (w : World) (ha : Rd stV 1 w A n c l) (hb : Rd coV 3 w B m d xs) (hn : n ≤ 1048576) (hg : ∀ s ∈ l, s.size ≤ 1048576) (hx : ∀ s ∈ xs, s.old.size ≤ 1048576 ∧ s.new.size ≤ 1048576) :
    Calls Tryz.prog 43 #[.slice A n c, .slice B m d] w fun e w' => (∃ B q d, e = .returned (.tuple #[.slice B q d, .bool (allG l xs)]) ∧ Own stV 1 w' w.heap.size 9 B q d (allL l xs)) ∧ Below w.heap.size w w' := by
  obtain ⟨i0, hi, hz0, hz1, hz2⟩ := info_parts Tryz.infoSt'
  have HL := Lib.hid ha.len
  have HX := Lib.hid hb.len
  have hmm := hb.le
  have hgm : ∀ s ∈ l, s.size ≤ maxLen := fun s hs => by have := hg s hs; unfold maxLen; omega
  go_enter Tryz.func43, Tryz.ntmps43
  go_upto_region 2 with ((
      at_builtin
      refine wpList_pushAll rfl _ _ _ rfl w.heap.size 9 i0 (.string ByteArray.empty) 1 16 Tryz.underlying35 hi hz0 hz1 hz2 rfl (by omega) stV stV_len one_st _ 0 0 [] rfl (Own.empty stV 1 _ 9) _ n c l rfl (ha.alloc _) (by simp only [maxLen]; omega) (by omega) (by first | simp; done | (simp; omega)) ?_
      intro B1 d1 w1 o1 g1
      simp only [Nat.zero_add, List.nil_append] at o1
      have b1 : Below w.heap.size w w1 := (below_alloc _).grown g1 (by simp) (fun k hk => by simp [blockOf] at hk; omega)
      have ho : Own stV 1 w1 w.heap.size 9 B1 n d1 l := o1))
  clear o1 g1
  go_wp2_with fail
  refine (l22Sheet_any _ _ _ _ _ (ha.below b1) hgm).mono ?_
  rintro e w2 ⟨rfl, rfl⟩
  cases h2 : sheetB l
  · have E := Lib.hid (show allOK l xs = false by unfold allOK; rw [h2]; rfl)
    go_wp2
    go_ret2
    exact ⟨⟨_, _, _, ret_sl_bool (allG_no E.out).symm, by rw [allL_no E.out]; exact (Own.empty stV 1 _ 9).base_le b1.size⟩, below_trans b1 (below_alloc _)⟩
  have H2 := Lib.hid h2
  by_cases h3 : (10 : Int) < m
  · have E := Lib.hid (show allOK l xs = false by unfold allOK; rw [HX.out, h2]; simp; omega)
    clear ha hb hg hx hgm
    go_wp2
    go_ret2
    exact ⟨⟨_, _, _, ret_sl_bool (allG_no E.out).symm, by rw [allL_no E.out]; exact (Own.empty stV 1 _ 9).base_le b1.size⟩, below_trans b1 (below_alloc _)⟩
  have EO := Lib.hid (show allOK l xs = true by unfold allOK; rw [HX.out, h2]; simp; omega)
  clear h2 hgm
  go_wp2
  go_loopw [6, 7] (fun v i wr => ∃ (k : Nat) (cur : List ByteArray), k ≤ m ∧ i = .int .i64 k ∧ cur.length = n ∧ sheetB cur = true ∧ allC l xs = allC cur (xs.drop k) ∧ (∃ B' d', v = .slice B' n d' ∧ Own stV 1 wr w.heap.size 9 B' n d' cur) ∧ Below w.heap.size w wr) (fun _ i _ => m - (intOf i).toNat)
  case atStart => exact ⟨0, l, Nat.zero_le _, rfl, HL.out, H2.out, rfl, ⟨_, _, rfl, ho⟩, b1⟩
  case round =>
    clear ho b1
    obtain ⟨k, cur, hk, rfl, hcl, hcs, hall, ⟨B', d', rfl, ho⟩, hbw⟩ := hrel
    have HA := Lib.hid hall
    have HC := Lib.hid hcs
    have HCL := Lib.hid hcl
    clear hall hcs hcl
    by_cases hlt : k < m
    · obtain ⟨b1, o1, x, rfl, hs, c0, c1, c2⟩ := (hb.below hbw).co hlt
      have hxs := hx x (List.mem_of_getElem? hs)
      have HS := Lib.hid hs
      clear hs
      have hcr := (ho.rd stV_len)
      generalize hwo : wr = wo at *
      go_wp2_with fail
      refine (specCorrectSheet_any _ _ _ _ x _ hcr hn (sheet_sz HC.out) hxs.1 hxs.2).mono ?_
      rintro e w2 ⟨⟨B3, q3, d3, rfl, o3⟩, b2⟩
      have t3 := below_trans hbw b2
      have HG := Lib.hid (show shG cur x = corrG cur x by unfold shG; rw [HC.out]; rfl)
      cases h6 : shG cur x
      · have E := Lib.hid (show allC l xs = none by rw [HA.out]; exact allC_no HS.out (by rw [← HG.out, h6]))
        go_wp2
        go_ret2
        exact ⟨⟨_, _, _, ret_sl_bool (allG_none E.out).symm, by rw [allL_none E.out]; exact (Own.empty stV 1 _ 9).base_le t3.size⟩, below_trans t3 (below_alloc _)⟩
      · have H6 : Hid (corrG cur x = true) := by show _ = _; rw [← HG.out, h6]
        have o4 : Own stV 1 w2 wo.heap.size 9 B3 q3 d3 (corrL cur x) := by rw [← shL_yes h6]; exact o3
        obtain rfl : q3 = n := by rw [← o4.len, corrL_len H6.out, HCL.out]
        clear h6 o3
        go_wp2
        go_roundw
        case rel => exact ⟨k + 1, corrL cur x, by omega, by go_num, by rw [corrL_len H6.out, HCL.out], corrL_sheet HC.out H6.out, by rw [HA.out]; exact allC_yes HS.out H6.out, ⟨_, _, rfl, o4.base_le hbw.size⟩, t3⟩
        case measure => simp [intOf]; omega
    · obtain rfl : k = m := by omega
      have E := Lib.hid (show allC l xs = some cur by rw [HA.out]; exact allC_end (by rw [HX.out]; exact Nat.le_refl _))
      clear ha hb hg hx
      go_wp2
      go_ret2
      exact ⟨⟨_, _, _, ret_sl_bool (allG_some E.out EO.out).symm, by rw [allL_some E.out EO.out]; exact ho⟩, hbw⟩

end Go.Proofs.YtmahfkimeclcbaaGreatDoor
