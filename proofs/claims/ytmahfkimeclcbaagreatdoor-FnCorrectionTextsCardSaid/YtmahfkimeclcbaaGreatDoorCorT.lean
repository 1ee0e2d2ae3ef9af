/-
  YtmahfkimeclcbaaGreatDoorCorT: the text of a correction (canTell, l22Told, correctionText, l22Text; CorrectionText on both sides), by contracts.
-/
import Derived.Test.YtmahfkimeclcbaaGreatDoorCorC
import Derived.Test.YtmahfkimeclcbaaGreatDoorNum
import Derived.Test.YtmahfkimeclcbaaGreatDoorSt
import Derived.Test.YtmahfkimeclcbaaGreatDoorShelf
import Derived.Lib.IndexBytes
namespace Go.Proofs.YtmahfkimeclcbaaGreatDoor
open Go Go.RowKit Go.Sort
set_option linter.unusedVariables false

/-- A byte stands in a text. -/
def standB (s : ByteArray) (b : UInt8) : Bool := s.data.toList.any fun x => x == b
theorem stand_hit {s : ByteArray} {b : UInt8} {k : Nat} (hk : k < s.size) (h : s[k] = b) : standB s b = true := by
  unfold standB
  rw [List.any_eq_true]
  exact ⟨s[k], List.mem_of_getElem? (byte_get hk), by simp [h]⟩
theorem stand_none {s : ByteArray} {b : UInt8} (h : ∀ j x, j < s.size → s.data.toList[j]? = some x → x ≠ b) : standB s b = false := by
  unfold standB
  rw [List.any_eq_false]
  intro x hx
  obtain ⟨i, hi⟩ := List.mem_iff_getElem?.1 hx
  have hl : i < s.size := (List.getElem?_eq_some_iff.1 hi).1
  simpa using h i x hl hi
theorem stand_iff {s : ByteArray} {b : UInt8} : standB s b = false ↔ b ∉ s.data.toList := by
  unfold standB
  rw [List.any_eq_false]
  constructor
  · intro h hb; have := h b hb; simp at this
  · intro h x hx e; have : x = b := by simpa using e
    exact h (this ▸ hx)
theorem contains_one (l : List UInt8) (b : UInt8) : Lib.contains l [b] = l.any (fun x => x == b) := by
  unfold Lib.contains
  rcases Lib.index_spec l [b] with ⟨h, hn⟩ | ⟨i, h, hi, ho, _⟩
  · rw [h]
    symm
    show _ = false
    rw [List.any_eq_false]
    intro x hx e
    obtain ⟨i, hi⟩ := List.mem_iff_getElem?.1 hx
    have hl := (List.getElem?_eq_some_iff.1 hi).1
    have hb : x = b := by simpa using e
    have := hn i (by omega)
    unfold Lib.occAt at this
    rw [List.drop_eq_getElem_cons hl] at this
    have e2 : l[i] = b := by rw [← hb]; exact (List.getElem?_eq_some_iff.1 hi).2
    simp [e2] at this
  · rw [h]
    symm
    have : decide ((0 : Int) ≤ (i : Int)) = true := by simp
    rw [this, List.any_eq_true]
    exact ⟨b, List.mem_of_getElem? (Lib.occAt_head rfl ho), by simp⟩
theorem contains_two (a c : ByteArray) (b : UInt8) : decide (0 ≤ Lib.indexByte (a ++ c).data.toList b) = (standB a b || standB c b) := by
  rw [← Lib.index_one]
  refine (contains_one _ _).trans ?_
  unfold standB
  simp

set_option maxHeartbeats 400000 in
theorem l1Stands_any (s : ByteArray) (b : UInt8) (w : World) (hs : s.size ≤ maxLen) : Calls Tryz.prog 52 #[.string s, .int .u8 (b.toNat : Int)] w fun e w' => e = .returned (.bool (standB s b)) ∧ w = w' := by
  unfold maxLen at hs
  go_enter Tryz.func52, Tryz.ntmps52
  go_wp2
  go_loop [5] (fun i => ∃ k : Nat, k ≤ s.size ∧ i = .int .i64 k ∧ ∀ j x, j < k → s.data.toList[j]? = some x → x ≠ b) (fun i => s.size - (intOf i).toNat)
  case atStart => exact ⟨0, Nat.zero_le _, rfl, fun j b hj => absurd hj (by omega)⟩
  case round =>
    obtain ⟨k, hk, rfl, hup⟩ := hrel
    have HU := Lib.hid hup
    clear hup
    by_cases hlt : k < s.size
    · by_cases h1 : s[k] = b
      · have E := Lib.hid (stand_hit hlt h1)
        have ht : ((s[k].toNat : Int) == (b.toNat : Int)) = true := by rw [h1]; simp
        clear h1
        go_wp2
        go_ret
        exact ⟨ret_bool E.out.symm, rfl⟩
      · have HN : Hid (∀ j x, j < k + 1 → s.data.toList[j]? = some x → x ≠ b) := fun j x hj hx => by
          by_cases e : j = k
          · subst e; rw [byte_get hlt] at hx; injection hx with hx; rw [← hx]; exact h1
          · exact HU.out j x (by omega) hx
        have ht : ((s[k].toNat : Int) == (b.toNat : Int)) = false := by
          rw [beq_eq_false_iff_ne]
          intro e
          exact h1 (UInt8.toNat_inj.1 (by omega))
        clear h1
        go_wp2
        go_round
        case rel => exact ⟨k + 1, by omega, by go_num, HN.out⟩
        case measure => simp [intOf]; omega
    · obtain rfl : k = s.size := by omega
      have E := Lib.hid (stand_none HU.out)
      go_wp2
      go_ret
      exact ⟨ret_bool E.out.symm, rfl⟩
theorem stands34 (s : ByteArray) (w : World) (hs : s.size ≤ maxLen) : Calls Tryz.prog 52 #[.string s, .int .u8 34] w fun e w' => e = .returned (.bool (standB s 34)) ∧ w = w' := l1Stands_any s 34 w hs

/-- A correction has a text. -/
def tellB (x : CO) : Bool := (inB x.line 0 11 && coOK x) && (!standB x.old 34 && !standB x.new 34)
theorem tellB_iff {x : CO} : tellB x = true ↔ inB x.line 0 11 = true ∧ coOK x = true ∧ standB x.old 34 = false ∧ standB x.new 34 = false := by
  unfold tellB
  simp only [Bool.and_eq_true, Bool.not_eq_true']
  constructor
  · rintro ⟨⟨a, b⟩, c, d⟩; exact ⟨a, b, c, d⟩
  · rintro ⟨a, b, c, d⟩; exact ⟨⟨a, b⟩, c, d⟩
theorem coOK_sizes {x : CO} (h : coOK x = true) : x.old.size ≤ 20 ∧ x.new.size ≤ 20 ∧ 1 ≤ x.old.size := by
  simp only [coOK, Bool.and_eq_true, inB_iff] at h
  omega

set_option maxRecDepth 100000 in
set_option maxHeartbeats 1000000 in
theorem l22Told_any (x : CO) (w : World) (h0 : x.old.size ≤ maxLen) (h1 : x.new.size ≤ maxLen) :
    Calls Tryz.prog 22 #[.agg #[.int .i64 x.line, .string x.old, .string x.new]] w fun e w' => e = .returned (.bool (tellB x)) ∧ Below w.heap.size w w' := by
  have b0 := below_alloc (w := w) (.cells #[.int .i64 x.line, .string x.old, .string x.new] 25)
  have q0 := fun i => cell_of_row (w.alloc (.cells #[.int .i64 x.line, .string x.old, .string x.new] 25)) w.heap.size i _ _ _ (heap_new rfl)
  have c1 : (w.alloc (.cells #[.int .i64 x.line, .string x.old, .string x.new] 25)).cell? ⟨w.heap.size, 1, none⟩ = some (.string x.old) := q0 1
  have c2 : (w.alloc (.cells #[.int .i64 x.line, .string x.old, .string x.new] 25)).cell? ⟨w.heap.size, 2, none⟩ = some (.string x.new) := q0 2
  clear q0
  go_enter Tryz.func22, Tryz.ntmps22
  go_wp2_with fail
  refine (l1In_any _ _ _ _).mono ?_
  rintro e w1 ⟨rfl, rfl⟩
  cases ha : inB x.line 0 11
  · have E : Hid (tellB x = false) := by show _ = _; simp [tellB, ha]
    clear ha
    go_wp2
    go_ret
    exact ⟨ret_bool E.out.symm, b0⟩
  · have HA := Lib.hid ha
    clear ha
    go_wp2_with fail
    refine (l22One_any _ _ h0 h1).mono ?_
    rintro e w2 ⟨rfl, b2⟩
    replace c1 := cell_below b2 c1
    replace c2 := cell_below b2 c2
    have t2 := below_trans b0 b2
    cases hb : coOK x
    · have E : Hid (tellB x = false) := by show _ = _; simp [tellB, hb]
      clear hb
      go_wp2
      go_ret
      exact ⟨ret_bool E.out.symm, t2⟩
    · have HB := Lib.hid hb
      clear hb
      go_wp2_with fail
      refine (stands34 _ _ h0).mono ?_
      rintro e w3 ⟨rfl, rfl⟩
      cases hc : standB x.old 34
      · have HC := Lib.hid hc
        clear hc
        go_wp2_with fail
        refine (stands34 _ _ h1).mono ?_
        rintro e w4 ⟨rfl, rfl⟩
        have E : Hid (tellB x = !standB x.new 34) := by show _ = _; simp [tellB, HA.out, HB.out, HC.out]
        go_wp2
        go_ret
        exact ⟨ret_bool E.out.symm, t2⟩
      · have E : Hid (tellB x = false) := by show _ = _; simp [tellB, hc]
        clear hc
        go_wp2
        go_ret
        exact ⟨ret_bool E.out.symm, t2⟩

set_option maxRecDepth 100000 in
set_option maxHeartbeats 1000000 in
theorem canTell_any (x : CO) (w : World) (h0 : x.old.size ≤ maxLen) (h1 : x.new.size ≤ maxLen) :
    Calls Tryz.prog 20 #[.agg #[.int .i64 x.line, .string x.old, .string x.new]] w fun e w' => e = .returned (.bool (tellB x)) ∧ Below w.heap.size w w' := by
  have b0 := below_alloc (w := w) (.cells #[.int .i64 x.line, .string x.old, .string x.new] 25)
  have q0 := fun i => cell_of_row (w.alloc (.cells #[.int .i64 x.line, .string x.old, .string x.new] 25)) w.heap.size i _ _ _ (heap_new rfl)
  have c1 : (w.alloc (.cells #[.int .i64 x.line, .string x.old, .string x.new] 25)).cell? ⟨w.heap.size, 1, none⟩ = some (.string x.old) := q0 1
  have c2 : (w.alloc (.cells #[.int .i64 x.line, .string x.old, .string x.new] 25)).cell? ⟨w.heap.size, 2, none⟩ = some (.string x.new) := q0 2
  clear q0
  go_enter Tryz.func20, Tryz.ntmps20
  go_wp2_with fail
  refine (inside_any _ _ _ _).mono ?_
  rintro e w1 ⟨rfl, rfl⟩
  cases ha : inB x.line 0 11
  · have E : Hid (tellB x = false) := by show _ = _; simp [tellB, ha]
    clear ha
    go_wp2
    go_ret
    exact ⟨ret_bool E.out.symm, b0⟩
  · have HA := Lib.hid ha
    clear ha
    go_wp2_with fail
    refine (isCorrection_any _ _ h0 h1).mono ?_
    rintro e w2 ⟨rfl, b2⟩
    replace c1 := cell_below b2 c1
    replace c2 := cell_below b2 c2
    have t2 := below_trans b0 b2
    cases hb : coOK x
    · have E : Hid (tellB x = false) := by show _ = _; simp [tellB, hb]
      clear hb
      go_wp2
      go_ret
      exact ⟨ret_bool E.out.symm, t2⟩
    · have HB := Lib.hid hb
      obtain ⟨z0, z1, -⟩ := coOK_sizes hb
      have hz : (x.old ++ x.new).size ≤ maxLen := by rw [ByteArray.size_append]; unfold maxLen; omega
      clear hb
      have hc := Tryz.strings_Contains_one (x.old ++ x.new) 34 w2
      have E : Hid (tellB x = !decide (0 ≤ Lib.indexByte (x.old ++ x.new).data.toList 34)) := by
        show _ = _
        rw [contains_two]
        simp [tellB, HA.out, HB.out]
      have HC := Lib.hid hc
      clear hc
      go_wp2_with fail
      refine HC.out.mono ?_
      rintro e w3 ⟨rfl, rfl⟩
      go_wp2
      go_ret
      exact ⟨ret_bool E.out.symm, t2⟩

/-- The text of a correction. -/
def corS (x : CO) : ByteArray := (⟨#[108, 105, 110, 101, 32]⟩ : ByteArray) ++ numS x.line.toNat ++ (⟨#[58, 32, 34]⟩ : ByteArray) ++ x.old ++ (⟨#[34, 32, 116, 111, 32, 34]⟩ : ByteArray) ++ x.new ++ (⟨#[34]⟩ : ByteArray)
theorem szLine : (⟨#[108, 105, 110, 101, 32]⟩ : ByteArray).size = 5 := rfl
theorem szCol : (⟨#[58, 32, 34]⟩ : ByteArray).size = 3 := rfl
theorem szTo : (⟨#[34, 32, 116, 111, 32, 34]⟩ : ByteArray).size = 6 := rfl
theorem szQ : (⟨#[34]⟩ : ByteArray).size = 1 := rfl
theorem l1Num_int (x : Int) (w : World) (h0 : 0 ≤ x) (h1 : x < 1000000000000) :
    Calls Tryz.prog 53 #[.int .i64 x] w fun e w' => e = .returned (.string (numS x.toNat)) ∧ Below w.heap.size w w' := by
  obtain ⟨n, rfl⟩ := Int.eq_ofNat_of_zero_le h0
  exact l1Num_any n w (by omega)
theorem itoa_int (x : Int) (w : World) (h0 : 0 ≤ x) (h1 : x < 100) :
    Calls Tryz.prog 49 #[.int .i64 x] w fun e w' => e = .returned (.string (numS x.toNat)) ∧ Below w.heap.size w w' := by
  obtain ⟨n, rfl⟩ := Int.eq_ofNat_of_zero_le h0
  refine (Tryz.strconv_Itoa_small n (by omega) w).mono ?_
  rintro e w' ⟨rfl, rfl⟩
  exact ⟨rfl, Below.refl _ _⟩

set_option maxRecDepth 100000 in
set_option maxHeartbeats 1000000 in
theorem l22Text_any (x : CO) (w : World) (hl0 : 0 ≤ x.line) (hl1 : x.line < 100) (h0 : x.old.size ≤ 20) (h1 : x.new.size ≤ 20) :
    Calls Tryz.prog 23 #[.agg #[.int .i64 x.line, .string x.old, .string x.new]] w fun e w' => e = .returned (.string (corS x)) ∧ Below w.heap.size w w' := by
  have hW : Below w.heap.size w (w.alloc (.cells #[.int .i64 x.line, .string x.old, .string x.new] 25)) := below_alloc _
  have c0 := cell_regrown (cell_of_row (w.alloc (.cells #[.int .i64 x.line, .string x.old, .string x.new] 25)) w.heap.size 0 _ _ _ (heap_new rfl))
  have c1 := cell_regrown (cell_of_row (w.alloc (.cells #[.int .i64 x.line, .string x.old, .string x.new] 25)) w.heap.size 1 _ _ _ (heap_new rfl))
  have c2 := cell_regrown (cell_of_row (w.alloc (.cells #[.int .i64 x.line, .string x.old, .string x.new] 25)) w.heap.size 2 _ _ _ (heap_new rfl))
  have z := numS_size (n := x.line.toNat) (by omega)
  have m1 : ((⟨#[108, 105, 110, 101, 32]⟩ : ByteArray) ++ numS x.line.toNat).size ≤ maxLen := by simp only [ByteArray.size_append, szLine, maxLen]; omega
  have m2 : ((⟨#[108, 105, 110, 101, 32]⟩ : ByteArray) ++ numS x.line.toNat ++ (⟨#[58, 32, 34]⟩ : ByteArray)).size ≤ maxLen := by simp only [ByteArray.size_append, szLine, szCol, maxLen]; omega
  have m3 : ((⟨#[108, 105, 110, 101, 32]⟩ : ByteArray) ++ numS x.line.toNat ++ (⟨#[58, 32, 34]⟩ : ByteArray) ++ x.old).size ≤ maxLen := by simp only [ByteArray.size_append, szLine, szCol, maxLen]; omega
  have m4 : ((⟨#[108, 105, 110, 101, 32]⟩ : ByteArray) ++ numS x.line.toNat ++ (⟨#[58, 32, 34]⟩ : ByteArray) ++ x.old ++ (⟨#[34, 32, 116, 111, 32, 34]⟩ : ByteArray)).size ≤ maxLen := by simp only [ByteArray.size_append, szLine, szCol, szTo, maxLen]; omega
  have m5 : ((⟨#[108, 105, 110, 101, 32]⟩ : ByteArray) ++ numS x.line.toNat ++ (⟨#[58, 32, 34]⟩ : ByteArray) ++ x.old ++ (⟨#[34, 32, 116, 111, 32, 34]⟩ : ByteArray) ++ x.new).size ≤ maxLen := by simp only [ByteArray.size_append, szLine, szCol, szTo, maxLen]; omega
  have m6 : ((⟨#[108, 105, 110, 101, 32]⟩ : ByteArray) ++ numS x.line.toNat ++ (⟨#[58, 32, 34]⟩ : ByteArray) ++ x.old ++ (⟨#[34, 32, 116, 111, 32, 34]⟩ : ByteArray) ++ x.new ++ (⟨#[34]⟩ : ByteArray)).size ≤ maxLen := by simp only [ByteArray.size_append, szLine, szCol, szTo, szQ, maxLen]; omega
  go_enter Tryz.func23, Tryz.ntmps23
  go_wp2_with fail
  refine wp_region_quiet_below (by kernel_rfl) (by kernel_rfl) ?_
  repeat (go_big_quiet_step ((go_at_call 53; exact Calls.regrown_of (l1Num_int _ _ hl0 (by omega)))))
  refine wpQuiet_nil ?_
  intro _ hw'
  obtain ⟨⟨dq, osq⟩, hw''⟩ := hw'
  subst hw''
  go_wp2
  go_ret
  exact ⟨rfl, below_grow hW dq osq⟩

set_option maxRecDepth 100000 in
set_option maxHeartbeats 1000000 in
theorem correctionText_any (x : CO) (w : World) (hl0 : 0 ≤ x.line) (hl1 : x.line < 100) (h0 : x.old.size ≤ 20) (h1 : x.new.size ≤ 20) :
    Calls Tryz.prog 21 #[.agg #[.int .i64 x.line, .string x.old, .string x.new]] w fun e w' => e = .returned (.string (corS x)) ∧ Below w.heap.size w w' := by
  have hW : Below w.heap.size w (w.alloc (.cells #[.int .i64 x.line, .string x.old, .string x.new] 25)) := below_alloc _
  have c0 := cell_regrown (cell_of_row (w.alloc (.cells #[.int .i64 x.line, .string x.old, .string x.new] 25)) w.heap.size 0 _ _ _ (heap_new rfl))
  have c1 := cell_regrown (cell_of_row (w.alloc (.cells #[.int .i64 x.line, .string x.old, .string x.new] 25)) w.heap.size 1 _ _ _ (heap_new rfl))
  have c2 := cell_regrown (cell_of_row (w.alloc (.cells #[.int .i64 x.line, .string x.old, .string x.new] 25)) w.heap.size 2 _ _ _ (heap_new rfl))
  have z := numS_size (n := x.line.toNat) (by omega)
  have m1 : ((⟨#[108, 105, 110, 101, 32]⟩ : ByteArray) ++ numS x.line.toNat).size ≤ maxLen := by simp only [ByteArray.size_append, szLine, maxLen]; omega
  have m2 : ((⟨#[108, 105, 110, 101, 32]⟩ : ByteArray) ++ numS x.line.toNat ++ (⟨#[58, 32, 34]⟩ : ByteArray)).size ≤ maxLen := by simp only [ByteArray.size_append, szLine, szCol, maxLen]; omega
  have m3 : ((⟨#[108, 105, 110, 101, 32]⟩ : ByteArray) ++ numS x.line.toNat ++ (⟨#[58, 32, 34]⟩ : ByteArray) ++ x.old).size ≤ maxLen := by simp only [ByteArray.size_append, szLine, szCol, maxLen]; omega
  have m4 : ((⟨#[108, 105, 110, 101, 32]⟩ : ByteArray) ++ numS x.line.toNat ++ (⟨#[58, 32, 34]⟩ : ByteArray) ++ x.old ++ (⟨#[34, 32, 116, 111, 32, 34]⟩ : ByteArray)).size ≤ maxLen := by simp only [ByteArray.size_append, szLine, szCol, szTo, maxLen]; omega
  have m5 : ((⟨#[108, 105, 110, 101, 32]⟩ : ByteArray) ++ numS x.line.toNat ++ (⟨#[58, 32, 34]⟩ : ByteArray) ++ x.old ++ (⟨#[34, 32, 116, 111, 32, 34]⟩ : ByteArray) ++ x.new).size ≤ maxLen := by simp only [ByteArray.size_append, szLine, szCol, szTo, maxLen]; omega
  have m6 : ((⟨#[108, 105, 110, 101, 32]⟩ : ByteArray) ++ numS x.line.toNat ++ (⟨#[58, 32, 34]⟩ : ByteArray) ++ x.old ++ (⟨#[34, 32, 116, 111, 32, 34]⟩ : ByteArray) ++ x.new ++ (⟨#[34]⟩ : ByteArray)).size ≤ maxLen := by simp only [ByteArray.size_append, szLine, szCol, szTo, szQ, maxLen]; omega
  go_enter Tryz.func21, Tryz.ntmps21
  go_wp2_with fail
  refine wp_region_quiet_below (by kernel_rfl) (by kernel_rfl) ?_
  repeat (go_big_quiet_step ((go_at_call 49; exact Calls.regrown_of (itoa_int _ _ hl0 hl1))))
  refine wpQuiet_nil ?_
  intro _ hw'
  obtain ⟨⟨dq, osq⟩, hw''⟩ := hw'
  subst hw''
  go_wp2
  go_ret
  exact ⟨rfl, below_grow hW dq osq⟩

/-- What CorrectionText gives. -/
def corL (x : CO) : ByteArray := if tellB x then corS x else ByteArray.empty

set_option maxRecDepth 100000 in
set_option maxHeartbeats 1000000 in
theorem specCorrectionText_any (x : CO) (w : World) (h0 : x.old.size ≤ maxLen) (h1 : x.new.size ≤ maxLen) :
    Calls Tryz.prog 7 #[.agg #[.int .i64 x.line, .string x.old, .string x.new]] w fun e w' => e = .returned (.tuple #[.string (corL x), .bool (tellB x)]) ∧ Below w.heap.size w w' := by
  go_enter Tryz.func7, Tryz.ntmps7
  go_wp2_with fail
  refine (l22Told_any x _ h0 h1).mono ?_
  rintro e w1 ⟨rfl, b1⟩
  have c0 := cell_below b1 (cell_of_row _ w.heap.size 0 _ _ _ (heap_new rfl))
  have c1 := cell_below b1 (cell_of_row _ w.heap.size 1 _ _ _ (heap_new rfl))
  have c2 := cell_below b1 (cell_of_row _ w.heap.size 2 _ _ _ (heap_new rfl))
  replace b1 := below_trans (below_alloc _) b1
  cases h : tellB x
  · have E := Lib.hid (show corL x = ByteArray.empty by simp [corL, h])
    have H := Lib.hid h
    clear h
    go_wp2
    go_ret2
    exact ⟨by rw [E.out, H.out]; rfl, b1⟩
  · have E := Lib.hid (show corL x = corS x by simp [corL, h])
    obtain ⟨g1, g2, -, -⟩ := tellB_iff.1 h
    obtain ⟨z0, z1, -⟩ := coOK_sizes g2
    rw [inB_iff] at g1
    obtain ⟨g3, g4⟩ := g1
    have H := Lib.hid h
    clear h g2
    go_wp2_with fail
    refine (l22Text_any x _ g3 (by omega) z0 z1).mono ?_
    rintro e w2 ⟨rfl, b2⟩
    go_wp2
    go_ret2
    exact ⟨by rw [E.out, H.out]; rfl, below_trans b1 b2⟩

set_option maxRecDepth 100000 in
set_option maxHeartbeats 1000000 in
theorem implCorrectionText_any (x : CO) (w : World) (h0 : x.old.size ≤ maxLen) (h1 : x.new.size ≤ maxLen) :
    Calls Tryz.prog 6 #[.agg #[.int .i64 x.line, .string x.old, .string x.new]] w fun e w' => e = .returned (.tuple #[.string (corL x), .bool (tellB x)]) ∧ Below w.heap.size w w' := by
  go_enter Tryz.func6, Tryz.ntmps6
  go_wp2_with fail
  refine (canTell_any x _ h0 h1).mono ?_
  rintro e w1 ⟨rfl, b1⟩
  have c0 := cell_below b1 (cell_of_row _ w.heap.size 0 _ _ _ (heap_new rfl))
  have c1 := cell_below b1 (cell_of_row _ w.heap.size 1 _ _ _ (heap_new rfl))
  have c2 := cell_below b1 (cell_of_row _ w.heap.size 2 _ _ _ (heap_new rfl))
  replace b1 := below_trans (below_alloc _) b1
  cases h : tellB x
  · have E := Lib.hid (show corL x = ByteArray.empty by simp [corL, h])
    have H := Lib.hid h
    clear h
    go_wp2
    go_ret2
    exact ⟨by rw [E.out, H.out]; rfl, b1⟩
  · have E := Lib.hid (show corL x = corS x by simp [corL, h])
    obtain ⟨g1, g2, -, -⟩ := tellB_iff.1 h
    obtain ⟨z0, z1, -⟩ := coOK_sizes g2
    rw [inB_iff] at g1
    obtain ⟨g3, g4⟩ := g1
    have H := Lib.hid h
    clear h g2
    go_wp2_with fail
    refine (correctionText_any x _ g3 (by omega) z0 z1).mono ?_
    rintro e w2 ⟨rfl, b2⟩
    go_wp2
    go_ret2
    exact ⟨by rw [E.out, H.out]; rfl, below_trans b1 b2⟩

end Go.Proofs.YtmahfkimeclcbaaGreatDoor
