/-
  YtmahfkimeclcbaaCorF: corrections: both ChangedLines.
-/
import Derived.Test.YtmahfkimeclcbaaCorE
import Derived.BigQuiet
namespace Go.Proofs.Ytmahfkimeclcbaa
open Go Go.RowKit Go.Sort
set_option linter.unusedVariables false

/-- The i-th lines of two sheets differ. -/
def dif (l r : List ByteArray) (i : Nat) : Bool := !((l.getD i ⟨#[]⟩).toList == (r.getD i ⟨#[]⟩).toList)
/-- The lines below k that differ. -/
def chgTo (l r : List ByteArray) (k : Nat) : List Int := ((List.range k).filter (dif l r)).map fun (i : Nat) => (i : Int)
theorem chgTo_yes {l r : List ByteArray} {k : Nat} (h : dif l r k = true) : chgTo l r (k + 1) = chgTo l r k ++ [(k : Int)] := by
  unfold chgTo; rw [List.range_succ, List.filter_append, List.map_append]; simp [h]
theorem chgTo_no {l r : List ByteArray} {k : Nat} (h : dif l r k = false) : chgTo l r (k + 1) = chgTo l r k := by
  unfold chgTo; rw [List.range_succ, List.filter_append, List.map_append]; simp [h]
theorem chgTo_len (l r : List ByteArray) (k : Nat) : (chgTo l r k).length ≤ k := by
  unfold chgTo
  rw [List.length_map]
  exact Nat.le_trans (List.length_filter_le _ _) (by simp)
theorem dif_at {l r : List ByteArray} {k : Nat} {s t : ByteArray} (h : l[k]? = some s) (h' : r[k]? = some t) : dif l r k = !(s.toList == t.toList) := by
  unfold dif; rw [List.getD, List.getD, h, h']; rfl
theorem beq_flip (a b : List UInt8) : (a == b) = (b == a) := BEq.comm
/-- Two rows of the call's own with other element types lie in other blocks. -/
theorem Own.ty_apart {α β : Type} {enc : α → List Value} {enc' : β → List Value} {sz sz' : Nat} {w : World} {base base' : Nat} {e e' : TypeId} {A A' : Option Addr} {n c n' c' : Nat} {l : List α} {l' : List β}
    (h : Own enc sz w base e A n c l) (h' : Own enc' sz' w base' e' A' n' c' l') (hne : e ≠ e') : blockOf A = none ∨ blockOf A ≠ blockOf A' := by
  rcases h.row.2 with ⟨h1, _⟩ | ⟨g, cap, cur, h1, _, h3, _⟩
  · injection h1 with h1; subst h1; exact .inl rfl
  · injection h1 with h1
    subst h1
    refine .inr ?_
    rcases h'.row.2 with ⟨k1, _⟩ | ⟨g', cap', cur', k1, _, k3, _⟩
    · injection k1 with k1; subst k1; exact fun e => by cases e
    · injection k1 with k1
      subst k1
      intro e1
      have : g = g' := by simpa [blockOf] using e1
      subst this
      rw [h3] at k3
      injection k3 with k3
      injection k3 with _ k3 _
      exact hne k3
def chgL (l : List ByteArray) (xs : List CO) : List Int := if allG l xs then chgTo l (allL l xs) l.length else []
theorem chgL_no {l : List ByteArray} {xs : List CO} (h : allG l xs = false) : chgL l xs = [] := by simp [chgL, h]
theorem chgL_yes {l : List ByteArray} {xs : List CO} (h : allG l xs = true) : chgL l xs = chgTo l (allL l xs) l.length := by simp [chgL, h]
theorem chgL_len (l : List ByteArray) (xs : List CO) : (chgL l xs).length ≤ l.length := by
  unfold chgL
  split
  · exact chgTo_len _ _ _
  · simp
theorem allL_len_eq {l : List ByteArray} {xs : List CO} (h : allG l xs = true) : (allL l xs).length = l.length := by
  unfold allG at h
  rw [Bool.and_eq_true] at h
  cases h2 : allC l xs with
  | none => rw [h2] at h; simp at h
  | some r => rw [allL_some h2 h.1]; exact allC_len h2

set_option maxRecDepth 100000 in
set_option maxHeartbeats 2000000 in
theorem implChangedLines_any (A : Option Addr) (n c : Nat) (l : List ByteArray) (B : Option Addr) (m d : Nat) (xs : List CO) (mx : Int) (w : World) (ha : Rd stV 1 w A n c l) (hb : Rd coV 3 w B m d xs) (hn : n ≤ 1048576) (hg : ∀ s ∈ l, s.size ≤ 1048576) (hx : ∀ s ∈ xs, s.old.size ≤ 1048576 ∧ s.new.size ≤ 1048576) (hM : w.cell? ⟨0, 0, none⟩ = some (.int .i64 mx)) :
    Calls Try.prog 9 #[.slice A n c, .slice B m d] w fun e w' => (∃ B q d, e = .returned (.tuple #[.slice B q d, .bool (allG l xs)]) ∧ Own inV 1 w' w.heap.size 3 B q d (chgL l xs)) ∧ Below w.heap.size w w' := by
  obtain ⟨i0, hi, hz0, hz1, hz2⟩ := info_parts Try.infoIn
  have HL := Lib.hid ha.len
  go_enter Try.func9, Try.ntmps9
  go_wp2_with fail
  refine (implCorrectAll_any _ _ _ _ _ _ _ _ mx _ ha hb hn hg hx hM).mono ?_
  rintro e w1 ⟨⟨B1, q1, d1, rfl, o1⟩, b1⟩
  cases h2 : allG l xs
  · go_wp2
    go_ret2
    exact ⟨⟨_, _, _, ret_sl_bool h2.symm, by rw [chgL_no h2]; exact Own.nil _ _ _⟩, b1⟩
  have H2 := Lib.hid h2
  obtain rfl : q1 = n := by rw [← o1.len, allL_len_eq h2, HL.out]
  have har := ha.below b1
  have hor := o1.rd stV_len
  have hmm := har.le
  clear h2 hb hg hx ha o1 hM
  have ho0 := Own.empty inV 1 w1 3
  go_wp2
  go_loopw [8, 22] (fun v i wr => ∃ k : Nat, k ≤ q1 ∧ i = .int .i64 k ∧ (∃ B2 q2 d2, v = .slice B2 q2 d2 ∧ q2 ≤ k ∧ Own inV 1 wr w1.heap.size 3 B2 q2 d2 (chgTo l (allL l xs) k)) ∧ Below w1.heap.size w1 wr) (fun _ i _ => q1 - (intOf i).toNat)
  case atStart => exact ⟨0, Nat.zero_le _, rfl, ⟨_, _, _, rfl, Nat.le_refl _, ho0⟩, below_alloc _⟩
  case round =>
    clear ho0
    obtain ⟨k, hk, rfl, ⟨B2, q2, d2, rfl, hq2, ho⟩, hbw⟩ := hrel
    by_cases hlt : k < q1
    · obtain ⟨b3, o3, s, rfl, hs, cs⟩ := (har.below hbw).st hlt
      obtain ⟨b4, o4, t, rfl, ht, ct⟩ := (hor.below hbw).st hlt
      have HS := Lib.hid hs
      have HT := Lib.hid ht
      clear hs ht
      cases h3 : (t.toList == s.toList)
      · have E := Lib.hid (chgTo_yes (l := l) (r := allL l xs) (k := k) (by rw [dif_at HS.out HT.out, beq_flip, h3]; rfl))
        go_wp2_with (at_builtin; refine wpList_push rfl _ _ _ rfl w1.heap.size 3 i0 (.int .i64 0) 1 8 Try.underlying32 hi hz0 hz1 hz2 rfl (by omega) inV inV_len one_in B2 q2 d2 _ rfl ho (k : Int) _ rfl _ rfl (by first | rfl | simp) (by simp only [maxLen]; omega) (by omega) hbw.size ?_; intro B3 d3 w3 ho3 hg3)
        go_roundw
        case rel => exact ⟨k + 1, by omega, by go_num, ⟨B3, q2 + 1, d3, rfl, by omega, by rw [E.out]; exact ho3⟩, below_push hbw ho hg3 (Nat.le_refl _)⟩
        case measure => simp [intOf]; omega
      · have E := Lib.hid (chgTo_no (l := l) (r := allL l xs) (k := k) (by rw [dif_at HS.out HT.out, beq_flip, h3]; rfl))
        go_wp2
        go_roundw
        case rel => exact ⟨k + 1, by omega, by go_num, ⟨B2, q2, d2, rfl, by omega, by rw [E.out]; exact ho⟩, hbw⟩
        case measure => simp [intOf]; omega
    · obtain rfl : k = q1 := by omega
      have E := Lib.hid (show chgTo l (allL l xs) k = chgL l xs by rw [chgL_yes H2.out, HL.out])
      clear har hor
      go_wp2
      go_ret2
      exact ⟨⟨_, _, _, ret_sl_bool (by rw [H2.out]), by rw [← E.out]; exact ho.base_le b1.size⟩, below_trans b1 hbw⟩

set_option maxRecDepth 100000 in
set_option maxHeartbeats 2000000 in
theorem specChangedLines_any (A : Option Addr) (n c : Nat) (l : List ByteArray) (B : Option Addr) (m d : Nat) (xs : List CO) (w : World) (ha : Rd stV 1 w A n c l) (hb : Rd coV 3 w B m d xs) (hn : n ≤ 1048576) (hg : ∀ s ∈ l, s.size ≤ 1048576) (hx : ∀ s ∈ xs, s.old.size ≤ 1048576 ∧ s.new.size ≤ 1048576) :
    Calls Try.prog 19 #[.slice A n c, .slice B m d] w fun e w' => (∃ B q d, e = .returned (.tuple #[.slice B q d, .bool (allG l xs)]) ∧ Own inV 1 w' w.heap.size 3 B q d (chgL l xs)) ∧ Below w.heap.size w w' := by
  obtain ⟨i0, hi, hz0, hz1, hz2⟩ := info_parts Try.infoIn
  have HL := Lib.hid ha.len
  have b0 := below_alloc (w := w) (.cells #[] 3)
  have oe := Own.empty inV 1 w 3
  go_enter Try.func19, Try.ntmps19
  go_wp2_with fail
  generalize hgw0 : w.alloc (.cells #[] 3) = w0 at *
  clear hgw0
  refine (specCorrectAll_any _ _ _ _ _ _ _ _ _ (ha.below b0) (hb.below b0) hn hg hx).mono ?_
  rintro e w1 ⟨⟨B1, q1, d1, rfl, o1⟩, b1⟩
  have oe := oe.below b1
  have t1 := below_trans b0 b1
  cases h2 : allG l xs
  · go_wp2
    go_ret2
    exact ⟨⟨_, _, _, ret_sl_bool h2.symm, by rw [chgL_no h2]; exact oe⟩, t1⟩
  have H2 := Lib.hid h2
  obtain rfl : q1 = n := by rw [← o1.len, allL_len_eq h2, HL.out]
  have har := ha.below t1
  have hor := o1.rd stV_len
  have hmm := har.le
  clear h2 hb hg hx har hor
  go_wp2
  go_loopw [6, 9] (fun v i wr => ∃ k : Nat, k ≤ q1 ∧ i = .int .i64 k ∧ (∃ B2 q2 d2, v = .slice B2 q2 d2 ∧ q2 ≤ k ∧ Own inV 1 wr w.heap.size 3 B2 q2 d2 (chgTo l (allL l xs) k)) ∧ Below w.heap.size w wr ∧ Own stV 1 wr w0.heap.size 9 B1 q1 d1 (allL l xs)) (fun _ i _ => q1 - (intOf i).toNat)
  case atStart => exact ⟨0, Nat.zero_le _, rfl, ⟨_, _, _, rfl, Nat.le_refl _, oe⟩, t1, o1⟩
  case round =>
    clear oe o1 t1
    obtain ⟨k, hk, rfl, ⟨B2, q2, d2, rfl, hq2, ho⟩, hbw, o1⟩ := hrel
    have har := ha.below hbw
    have hor := o1.rd stV_len
    by_cases hlt : k < q1
    · have bq := fun nq => below_drewN (Below.refl wr.heap.size wr) nq
      obtain ⟨b3, o3, s, rfl, hs, cs⟩ := har.st hlt
      obtain ⟨b4, o4, t, rfl, ht, ct⟩ := hor.st hlt
      have HS := Lib.hid hs
      have HT := Lib.hid ht
      clear hs ht
      cases h3 : (s.toList == t.toList)
      · have E := Lib.hid (chgTo_yes (l := l) (r := allL l xs) (k := k) (by rw [dif_at HS.out HT.out, h3]; rfl))
        go_wp2_with fail
        go_quiet (fail)
        have hbw2 := below_drewN hbw nq
        have ho2 := ho.below (bq nq)
        have o2 := o1.below (bq nq)
        clear bq cs ct har hor
        generalize hgw : wr.drewN nq = w2 at *
        clear hgw
        go_wp2_with (at_builtin; refine wpList_push rfl _ _ _ rfl w.heap.size 3 i0 (.int .i64 0) 1 8 Try.underlying32 hi hz0 hz1 hz2 rfl (by omega) inV inV_len one_in B2 q2 d2 _ rfl ho2 (k : Int) _ rfl _ rfl (by first | rfl | simp) (by simp only [maxLen]; omega) (by omega) hbw2.size ?_; intro B3 d3 w3 ho3 hg3; have o3 := o2.grown hg3 (o2.ty_apart ho2 (by decide)))
        go_roundw
        case rel => exact ⟨k + 1, by omega, by go_num, ⟨B3, q2 + 1, d3, rfl, by omega, by rw [E.out]; exact ho3⟩, below_push hbw2 ho2 hg3 (Nat.le_refl _), o3⟩
        case measure => simp [intOf]; omega
      · have E := Lib.hid (chgTo_no (l := l) (r := allL l xs) (k := k) (by rw [dif_at HS.out HT.out, h3]; rfl))
        go_wp2_with fail
        go_quiet (fail)
        go_wp2
        go_roundw
        case rel => exact ⟨k + 1, by omega, by go_num, ⟨B2, q2, d2, rfl, by omega, by rw [E.out]; exact ho.below (bq _)⟩, below_drewN hbw _, o1.below (bq _)⟩
        case measure => simp [intOf]; omega
    · obtain rfl : k = q1 := by omega
      have E := Lib.hid (show chgTo l (allL l xs) k = chgL l xs by rw [chgL_yes H2.out, HL.out])
      clear har hor ha
      go_wp2
      go_ret2
      exact ⟨⟨_, _, _, ret_sl_bool (by rw [H2.out]), by rw [← E.out]; exact ho⟩, hbw⟩

end Go.Proofs.Ytmahfkimeclcbaa
