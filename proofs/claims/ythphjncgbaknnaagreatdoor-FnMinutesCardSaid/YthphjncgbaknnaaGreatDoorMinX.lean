/-
  YthphjncgbaknnaaGreatDoorMinX: EntryText on both sides, by contracts. (Printed by wip/gen/minx.py.)
-/
import Derived.Test.YthphjncgbaknnaaGreatDoorMinW
namespace Go.Proofs.YthphjncgbaknnaaGreatDoor
open Go Go.RowKit Go.Sort
set_option linter.unusedVariables false
set_option linter.unusedSimpArgs false

/-- The sentence of a valid entry. -/
def senS (x : EN) : ByteArray :=
  if x.kind = 1 then (⟨#[84, 104, 101, 32, 99, 104, 97, 105, 114, 32]⟩ : ByteArray) ++ capS x.who ++ (⟨#[32, 111, 112, 101, 110, 101, 100, 32, 116, 104, 101, 32, 109, 101, 101, 116, 105, 110, 103, 46]⟩ : ByteArray)
  else if x.kind = 2 then capS x.who ++ (⟨#[32, 109, 111, 118, 101, 100, 32, 116, 111, 32]⟩ : ByteArray) ++ x.mo ++ (⟨#[46]⟩ : ByteArray)
  else if x.kind = 3 then capS x.who ++ (⟨#[32, 115, 101, 99, 111, 110, 100, 101, 100, 32, 116, 104, 101, 32, 109, 111, 116, 105, 111, 110, 32, 116, 111, 32]⟩ : ByteArray) ++ x.mo ++ (⟨#[46]⟩ : ByteArray)
  else if x.kind = 6 then (⟨#[84, 104, 101, 32, 99, 104, 97, 105, 114, 32]⟩ : ByteArray) ++ capS x.who ++ (⟨#[32, 99, 108, 111, 115, 101, 100, 32, 116, 104, 101, 32, 109, 101, 101, 116, 105, 110, 103, 46]⟩ : ByteArray)
  else if x.kind = 5 then (if x.pa then (⟨#[84, 104, 101, 32, 99, 104, 97, 105, 114, 32]⟩ : ByteArray) ++ capS x.who ++ (⟨#[32, 114, 117, 108, 101, 100, 32, 116, 104, 101, 32, 109, 111, 116, 105, 111, 110, 32, 116, 111, 32]⟩ : ByteArray) ++ x.mo ++ (⟨#[32, 105, 110, 32, 111, 114, 100, 101, 114, 46]⟩ : ByteArray) else (⟨#[84, 104, 101, 32, 99, 104, 97, 105, 114, 32]⟩ : ByteArray) ++ capS x.who ++ (⟨#[32, 114, 117, 108, 101, 100, 32, 116, 104, 101, 32, 109, 111, 116, 105, 111, 110, 32, 116, 111, 32]⟩ : ByteArray) ++ x.mo ++ (⟨#[32, 111, 117, 116, 32, 111, 102, 32, 111, 114, 100, 101, 114, 46]⟩ : ByteArray))
  else (if x.pa then (⟨#[84, 104, 101, 32, 109, 111, 116, 105, 111, 110, 32, 116, 111, 32]⟩ : ByteArray) ++ x.mo ++ (⟨#[32, 119, 97, 115, 32]⟩ : ByteArray) ++ (⟨#[97, 100, 111, 112, 116, 101, 100]⟩ : ByteArray) ++ (⟨#[32, 98, 121, 32]⟩ : ByteArray) ++ votS x.yes x.no x.ab ++ (⟨#[46]⟩ : ByteArray) else (⟨#[84, 104, 101, 32, 109, 111, 116, 105, 111, 110, 32, 116, 111, 32]⟩ : ByteArray) ++ x.mo ++ (⟨#[32, 119, 97, 115, 32]⟩ : ByteArray) ++ (⟨#[114, 101, 106, 101, 99, 116, 101, 100]⟩ : ByteArray) ++ (⟨#[32, 98, 121, 32]⟩ : ByteArray) ++ votS x.yes x.no x.ab ++ (⟨#[46]⟩ : ByteArray))
def senL (x : EN) : ByteArray := if enOK x then senS x else ByteArray.empty

theorem entryText_any (x : EN) (w : World) (hT : Lib.TabIs Tryz.prog w "internal/strconv.uint64pow10" .u64 Lib.pow10Tab) (h : EnOK x) : Calls Tryz.prog 20 #[.agg #[.int .i64 x.kind, .string x.who, .string x.mo, .int .i64 x.yes, .int .i64 x.no, .int .i64 x.ab, .bool x.pa]] w fun e w' => e = .returned (.string (senS x)) ∧ Below w.heap.size w w' := by
  obtain ⟨kind, who, mo, y, n, a, pa⟩ := x
  rcases h with ⟨h1, h2, h3, h4, h5⟩ | ⟨h1, h2, h3, h4, h5⟩ | ⟨h1, h2, h3, h4, h5, h6⟩ | ⟨h1, h2, h3, h4⟩
  · have s1 := word_size h2
    have e : mo = ByteArray.empty := (toList_nil_iff_emptyBytes _).1 h3
    have s2 : mo.size ≤ 10 := by rw [e]; exact Nat.zero_le _
    rcases h1 with h1 | h1 <;> (dsimp only at h1; subst h1)
    · exact implText_1 who mo y n a pa w (by have := s1.1; dsimp only at this; omega) s1.2 s2
    · exact implText_6 who mo y n a pa w (by have := s1.1; dsimp only at this; omega) s1.2 s2
  · have s1 := word_size h2
    have s2 := word_size h3
    rcases h1 with h1 | h1 <;> (dsimp only at h1; subst h1)
    · exact implText_2 who mo y n a pa w (by have := s1.1; dsimp only at this; omega) s1.2 s2.2
    · exact implText_3 who mo y n a pa w (by have := s1.1; dsimp only at this; omega) s1.2 s2.2
  · have s2 := word_size h3
    have e : who = ByteArray.empty := (toList_nil_iff_emptyBytes _).1 h2
    dsimp only at h1
    subst h1 e
    cases pa
    · exact implText_4f mo y n a w hT s2.2 h4 h5 h6
    · exact implText_4t mo y n a w hT s2.2 h4 h5 h6
  · have s1 := word_size h2
    have s2 := word_size h3
    dsimp only at h1
    subst h1
    cases pa
    · exact implText_5f who mo y n a w (by have := s1.1; dsimp only at this; omega) s1.2 s2.2
    · exact implText_5t who mo y n a w (by have := s1.1; dsimp only at this; omega) s1.2 s2.2

theorem l21Text_any (x : EN) (w : World) (h : EnOK x) : Calls Tryz.prog 22 #[.agg #[.int .i64 x.kind, .string x.who, .string x.mo, .int .i64 x.yes, .int .i64 x.no, .int .i64 x.ab, .bool x.pa]] w fun e w' => e = .returned (.string (senS x)) ∧ Below w.heap.size w w' := by
  obtain ⟨kind, who, mo, y, n, a, pa⟩ := x
  rcases h with ⟨h1, h2, h3, h4, h5⟩ | ⟨h1, h2, h3, h4, h5⟩ | ⟨h1, h2, h3, h4, h5, h6⟩ | ⟨h1, h2, h3, h4⟩
  · have s1 := word_size h2
    have e : mo = ByteArray.empty := (toList_nil_iff_emptyBytes _).1 h3
    have s2 : mo.size ≤ 10 := by rw [e]; exact Nat.zero_le _
    rcases h1 with h1 | h1 <;> (dsimp only at h1; subst h1)
    · exact specText_1 who mo y n a pa w (by have := s1.1; dsimp only at this; omega) s1.2 s2
    · exact specText_6 who mo y n a pa w (by have := s1.1; dsimp only at this; omega) s1.2 s2
  · have s1 := word_size h2
    have s2 := word_size h3
    rcases h1 with h1 | h1 <;> (dsimp only at h1; subst h1)
    · exact specText_2 who mo y n a pa w (by have := s1.1; dsimp only at this; omega) s1.2 s2.2
    · exact specText_3 who mo y n a pa w (by have := s1.1; dsimp only at this; omega) s1.2 s2.2
  · have s2 := word_size h3
    have e : who = ByteArray.empty := (toList_nil_iff_emptyBytes _).1 h2
    dsimp only at h1
    subst h1 e
    by_cases hab : 0 < a
    · cases pa
      · exact specText_4fy _ mo y n a w s2.2 h4 h5 h6 hab
      · exact specText_4ty _ mo y n a w s2.2 h4 h5 h6 hab
    · cases pa
      · exact specText_4fn _ mo y n a w s2.2 h4 h5 h6 hab
      · exact specText_4tn _ mo y n a w s2.2 h4 h5 h6 hab
  · have s1 := word_size h2
    have s2 := word_size h3
    dsimp only at h1
    subst h1
    cases pa
    · exact specText_5f who mo y n a false w (by have := s1.1; dsimp only at this; omega) s1.2 s2.2
    · exact specText_5t who mo y n a true w (by have := s1.1; dsimp only at this; omega) s1.2 s2.2

set_option maxRecDepth 100000 in
theorem implEntryText_any (x : EN) (w : World) (hT : Lib.TabIs Tryz.prog w "internal/strconv.uint64pow10" .u64 Lib.pow10Tab) (h0 : x.who.size ≤ maxLen) (h1 : x.mo.size ≤ maxLen) : Calls Tryz.prog 6 #[.agg #[.int .i64 x.kind, .string x.who, .string x.mo, .int .i64 x.yes, .int .i64 x.no, .int .i64 x.ab, .bool x.pa]] w fun e w' => e = .returned (.tuple #[.string (senL x), .bool (enOK x)]) ∧ Below w.heap.size w w' := by
  cases h : enOK x
  · have E := Lib.hid (show senL x = ByteArray.empty by simp [senL, h])
    have H := Lib.hid h
    go_enter Tryz.func6, Tryz.ntmps6
    go_wp2_with fail
    refine (implEntry_any x _ h0 h1).mono ?_
    rintro e w1 ⟨rfl, b1⟩
    replace b1 := below_trans (below_alloc _) b1
    rw [H.out]
    go_wp2
    go_ret2
    exact ⟨by rw [E.out]; rfl, b1⟩
  · have E := Lib.hid (show senL x = senS x by simp [senL, h])
    have H := Lib.hid h
    have hk := Lib.hid (of_decide_eq_true h)
    go_enter Tryz.func6, Tryz.ntmps6
    go_wp2_with fail
    refine (implEntry_any x _ h0 h1).mono ?_
    rintro e w1 ⟨rfl, b1⟩
    have c0 := cell_below b1 (cell_of_row _ w.heap.size 0 _ _ _ (heap_new rfl))
    have c1 := cell_below b1 (cell_of_row _ w.heap.size 1 _ _ _ (heap_new rfl))
    have c2 := cell_below b1 (cell_of_row _ w.heap.size 2 _ _ _ (heap_new rfl))
    have c3 := cell_below b1 (cell_of_row _ w.heap.size 3 _ _ _ (heap_new rfl))
    have c4 := cell_below b1 (cell_of_row _ w.heap.size 4 _ _ _ (heap_new rfl))
    have c5 := cell_below b1 (cell_of_row _ w.heap.size 5 _ _ _ (heap_new rfl))
    have c6 := cell_below b1 (cell_of_row _ w.heap.size 6 _ _ _ (heap_new rfl))
    replace b1 := below_trans (below_alloc _) b1
    rw [H.out]
    go_wp2_with fail
    refine (entryText_any x _ (pow10_below hT b1) hk.out).mono ?_
    rintro e w2 ⟨rfl, b2⟩
    go_wp2
    go_ret2
    exact ⟨by rw [E.out]; rfl, below_trans b1 b2⟩

set_option maxRecDepth 100000 in
theorem specEntryText_any (x : EN) (w : World) (h0 : x.who.size ≤ maxLen) (h1 : x.mo.size ≤ maxLen) : Calls Tryz.prog 7 #[.agg #[.int .i64 x.kind, .string x.who, .string x.mo, .int .i64 x.yes, .int .i64 x.no, .int .i64 x.ab, .bool x.pa]] w fun e w' => e = .returned (.tuple #[.string (senL x), .bool (enOK x)]) ∧ Below w.heap.size w w' := by
  cases h : enOK x
  · have E := Lib.hid (show senL x = ByteArray.empty by simp [senL, h])
    have H := Lib.hid h
    go_enter Tryz.func7, Tryz.ntmps7
    go_wp2_with fail
    refine (l21One_any x _ h0 h1).mono ?_
    rintro e w1 ⟨rfl, b1⟩
    replace b1 := below_trans (below_alloc _) b1
    rw [H.out]
    go_wp2
    go_ret2
    exact ⟨by rw [E.out]; rfl, b1⟩
  · have E := Lib.hid (show senL x = senS x by simp [senL, h])
    have H := Lib.hid h
    have hk := Lib.hid (of_decide_eq_true h)
    go_enter Tryz.func7, Tryz.ntmps7
    go_wp2_with fail
    refine (l21One_any x _ h0 h1).mono ?_
    rintro e w1 ⟨rfl, b1⟩
    have c0 := cell_below b1 (cell_of_row _ w.heap.size 0 _ _ _ (heap_new rfl))
    have c1 := cell_below b1 (cell_of_row _ w.heap.size 1 _ _ _ (heap_new rfl))
    have c2 := cell_below b1 (cell_of_row _ w.heap.size 2 _ _ _ (heap_new rfl))
    have c3 := cell_below b1 (cell_of_row _ w.heap.size 3 _ _ _ (heap_new rfl))
    have c4 := cell_below b1 (cell_of_row _ w.heap.size 4 _ _ _ (heap_new rfl))
    have c5 := cell_below b1 (cell_of_row _ w.heap.size 5 _ _ _ (heap_new rfl))
    have c6 := cell_below b1 (cell_of_row _ w.heap.size 6 _ _ _ (heap_new rfl))
    replace b1 := below_trans (below_alloc _) b1
    rw [H.out]
    go_wp2_with fail
    refine (l21Text_any x _ hk.out).mono ?_
    rintro e w2 ⟨rfl, b2⟩
    go_wp2
    go_ret2
    exact ⟨by rw [E.out]; rfl, below_trans b1 b2⟩


end Go.Proofs.YthphjncgbaknnaaGreatDoor
