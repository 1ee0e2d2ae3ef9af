/-
  YtmahfkimeclcbaaGreatDoorCorC: corrections: one correction made in one line: the walks.
-/
import Derived.Test.YtmahfkimeclcbaaGreatDoorCorB
import Derived.BigQuiet
namespace Go.Proofs.YtmahfkimeclcbaaGreatDoor
open Go Go.RowKit Go.Sort
set_option linter.unusedVariables false

/-- What l22Line hands back: the line and whether the correction fits. -/
def lineS (s : ByteArray) (x : CO) : ByteArray := if coOK x && oneB s x.old then fixB s x else ⟨#[]⟩
def lineG (s : ByteArray) (x : CO) : Bool := (coOK x && oneB s x.old) && lineB (fixB s x)
theorem lineS_no {s : ByteArray} {x : CO} (h : (coOK x && oneB s x.old) = false) : lineS s x = ⟨#[]⟩ := by simp [lineS, h]
theorem lineG_no {s : ByteArray} {x : CO} (h : (coOK x && oneB s x.old) = false) : lineG s x = false := by simp [lineG, h]
theorem lineS_yes {s : ByteArray} {x : CO} (h : coOK x = true) (h1 : oneB s x.old = true) : lineS s x = fixB s x := by simp [lineS, h, h1]
theorem lineG_yes {s : ByteArray} {x : CO} (h : coOK x = true) (h1 : oneB s x.old = true) : lineG s x = lineB (fixB s x) := by simp [lineG, h, h1]
theorem coOK_old {x : CO} (h : coOK x = true) : 1 ≤ x.old.size := by
  simp only [coOK, Bool.and_eq_true, inB_iff] at h
  omega

set_option maxRecDepth 100000 in
set_option maxHeartbeats 1000000 in
theorem l22Line_any (s : ByteArray) (x : CO) (w : World) (hs : s.size ≤ 4194304) (h0 : x.old.size ≤ 4194304) (h1 : x.new.size ≤ 4194304) :
    Calls Tryz.prog 38 #[.string s, .agg #[.int .i64 x.line, .string x.old, .string x.new]] w fun e w' =>
      e = .returned (.tuple #[.string (lineS s x), .bool (lineG s x)]) ∧ Below w.heap.size w w' := by
  have hm0 : x.old.size ≤ maxLen := by unfold maxLen; omega
  have hm1 : x.new.size ≤ maxLen := by unfold maxLen; omega
  have b0 := below_alloc (w := w) (.cells #[.int .i64 x.line, .string x.old, .string x.new] 25)
  have q0 := fun i => cell_of_row (w.alloc (.cells #[.int .i64 x.line, .string x.old, .string x.new] 25)) w.heap.size i _ _ _ (heap_new rfl)
  have c0 : (w.alloc (.cells #[.int .i64 x.line, .string x.old, .string x.new] 25)).cell? ⟨w.heap.size, 0, none⟩ = some (.int .i64 x.line) := q0 0
  have c1 : (w.alloc (.cells #[.int .i64 x.line, .string x.old, .string x.new] 25)).cell? ⟨w.heap.size, 1, none⟩ = some (.string x.old) := q0 1
  have c2 : (w.alloc (.cells #[.int .i64 x.line, .string x.old, .string x.new] 25)).cell? ⟨w.heap.size, 2, none⟩ = some (.string x.new) := q0 2
  clear q0
  go_enter Tryz.func38, Tryz.ntmps38
  go_wp2_with fail
  refine (l22Places_any _ _ _ hs h0).mono ?_
  rintro e w1 ⟨⟨B, q, d, rfl, ho⟩, b1⟩
  replace c0 := cell_below b1 c0
  replace c1 := cell_below b1 c1
  replace c2 := cell_below b1 c2
  have t1 := below_trans b0 b1
  go_wp2_with fail
  refine (l22One_any _ _ hm0 hm1).mono ?_
  rintro e w2 ⟨rfl, b2⟩
  replace c0 := cell_below b2 c0
  replace c1 := cell_below b2 c1
  replace c2 := cell_below b2 c2
  have t2 := below_trans t1 b2
  replace ho := ho.below b2
  have HQ := Lib.hid ho.len
  cases hc : coOK x
  · have E1 := Lib.hid (show (coOK x && oneB s x.old) = false by rw [hc]; rfl)
    go_wp2
    go_ret2
    exact ⟨ret_str_bool (lineS_no E1.out).symm (lineG_no E1.out).symm, t2⟩
  · by_cases h : q = 1
    · subst h
      have HO1 : Hid (oneB s x.old = true) := by show _ = _; unfold oneB; rw [HQ.out]; rfl
      rcases one_spec s x.old (coOK_old hc) with ⟨_, h2⟩ | ⟨i, h2, h3, _, h4⟩
      · rw [HO1.out] at h2; cases h2
      · have hpl := h4 HO1.out
        obtain ⟨b, o, y, rfl, hy, cy⟩ := (ho.rd inV_len).in (i := 0) (by omega)
        rw [Nat.add_zero] at cy
        obtain rfl : (i : Int) = y := by rw [hpl] at hy; simpa using hy
        have HA : Hid (at1 s x.old = i) := by show _ = _; unfold at1; rw [h2]; rfl
        have HC := Lib.hid hc
        clear hy h4 hpl h2 ho
        have HF : Hid (s.extract 0 i ++ x.new ++ s.extract (i + x.old.size) s.size = fixB s x) := by show _ = _; unfold fixB; rw [HA.out]
        have hms : (s.extract 0 i ++ x.new ++ s.extract (i + x.old.size) s.size).size ≤ maxLen := by simp only [ByteArray.size_append, ByteArray.size_extract, maxLen]; omega
        go_wp2_with fail
        go_quiet (fail)
        go_wp2_with fail
        refine (l22Plain_any _ _ _ hms).mono ?_
        rintro e w3 ⟨rfl, rfl⟩
        go_wp2
        go_ret2
        exact ⟨ret_str_bool (by rw [lineS_yes HC.out HO1.out]; exact HF.out) (by rw [lineG_yes HC.out HO1.out, ← HF.out]; simp [lineB, ByteArray.size_append]), below_drewN t2 _⟩
    · have HO1 : Hid (oneB s x.old = false) := by show _ = _; unfold oneB; rw [HQ.out]; simpa using h
      have E1 := Lib.hid (show (coOK x && oneB s x.old) = false by rw [HO1.out, hc]; rfl)
      have h' : ¬((q : Int) = 1) := by omega
      clear ho hc h
      go_wp2
      go_ret2
      exact ⟨ret_str_bool (lineS_no E1.out).symm (lineG_no E1.out).symm, t2⟩

/-- What correctLine hands back. -/
def impS (s : ByteArray) (x : CO) : ByteArray := if oneB s x.old then fixB s x else ⟨#[]⟩
def impG (s : ByteArray) (x : CO) : Bool := oneB s x.old && lineB (fixB s x)
theorem impS_no {s : ByteArray} {x : CO} (h : oneB s x.old = false) : impS s x = ⟨#[]⟩ := by simp [impS, h]
theorem impG_no {s : ByteArray} {x : CO} (h : oneB s x.old = false) : impG s x = false := by simp [impG, h]
theorem impS_yes {s : ByteArray} {x : CO} (h1 : oneB s x.old = true) : impS s x = fixB s x := by simp [impS, h1]
theorem impG_yes {s : ByteArray} {x : CO} (h1 : oneB s x.old = true) : impG s x = lineB (fixB s x) := by simp [impG, h1]

set_option maxRecDepth 100000 in
set_option maxHeartbeats 1000000 in
theorem correctLine_any (s : ByteArray) (x : CO) (mx : Int) (w : World) (hs : s.size ≤ 4194304) (h0 : x.old.size ≤ 4194304) (h1 : x.new.size ≤ 4194304) (hp : 1 ≤ x.old.size) (hM : w.cell? ⟨0, 0, none⟩ = some (.int .i64 mx)) :
    Calls Tryz.prog 35 #[.string s, .agg #[.int .i64 x.line, .string x.old, .string x.new]] w fun e w' =>
      e = .returned (.tuple #[.string (impS s x), .bool (impG s x)]) ∧ Below w.heap.size w w' := by
  have b0 := below_alloc (w := w) (.cells #[.int .i64 x.line, .string x.old, .string x.new] 25)
  have q0 := fun i => cell_of_row (w.alloc (.cells #[.int .i64 x.line, .string x.old, .string x.new] 25)) w.heap.size i _ _ _ (heap_new rfl)
  have c0 : (w.alloc (.cells #[.int .i64 x.line, .string x.old, .string x.new] 25)).cell? ⟨w.heap.size, 0, none⟩ = some (.int .i64 x.line) := q0 0
  have c1 : (w.alloc (.cells #[.int .i64 x.line, .string x.old, .string x.new] 25)).cell? ⟨w.heap.size, 1, none⟩ = some (.string x.old) := q0 1
  have c2 : (w.alloc (.cells #[.int .i64 x.line, .string x.old, .string x.new] 25)).cell? ⟨w.heap.size, 2, none⟩ = some (.string x.new) := q0 2
  have HM := Lib.hid (cell_below b0 hM)
  clear q0 hM
  have hi := Tryz.strings_Index s x.old mx _ (by omega) HM.out
  have hk : ∀ i : Nat, (s.extract (i + 1) s.size).size < 4294967281 := fun i => by rw [ByteArray.size_extract]; omega
  rcases one_spec s x.old hp with ⟨h2, h4⟩ | ⟨i, h2, h3, h4, h5⟩
  · rw [h2] at hi
    have HO1 := Lib.hid h4
    clear h2 h4
    go_enter Tryz.func35, Tryz.ntmps35
    go_wp2_with fail
    refine hi.mono ?_
    rintro e w1 ⟨rfl, rfl⟩
    go_wp2_with fail
    go_quiet (fail)
    go_wp2
    go_ret2
    exact ⟨ret_str_bool (impS_no HO1.out).symm (impG_no HO1.out).symm, below_drewN b0 _⟩
  · rw [h2] at hi
    have HA : Hid (at1 s x.old = i) := by show _ = _; unfold at1; rw [h2]; rfl
    have HF : Hid (s.extract 0 i ++ x.new ++ s.extract (i + x.old.size) s.size = fixB s x) := by show _ = _; unfold fixB; rw [HA.out]
    have hms : (s.extract 0 i ++ x.new ++ s.extract (i + x.old.size) s.size).size ≤ maxLen := by simp only [ByteArray.size_append, ByteArray.size_extract, maxLen]; omega
    have hc2 := fun nq => Tryz.strings_Contains (s.extract (i + 1) s.size) x.old mx ((w.alloc (.cells #[.int .i64 x.line, .string x.old, .string x.new] 25)).drewN nq) (hk i) HM.out
    have hneg : decide ((i : Int) < 0) = false := by simp
    have HO4 := Lib.hid h4
    clear h2 h4 h5
    cases h6 : Lib.contains (s.extract (i + 1) s.size).data.toList x.old.data.toList
    · have HO1 : Hid (oneB s x.old = true) := by show _ = _; rw [HO4.out, h6]; rfl
      rw [h6] at hc2
      go_enter Tryz.func35, Tryz.ntmps35
      go_wp2_with fail
      refine hi.mono ?_
      rintro e w1 ⟨rfl, rfl⟩
      go_wp2_with fail
      go_quiet ((go_at_call 48; exact Calls.quiet_of_same (hc2 _)))
      go_wp2_with fail
      go_quiet (fail)
      go_wp2_with fail
      refine (isLine_any _ _ hms).mono ?_
      rintro e w3 ⟨rfl, rfl⟩
      go_wp2
      go_ret2
      exact ⟨ret_str_bool (by rw [impS_yes HO1.out]; exact HF.out) (by rw [impG_yes HO1.out, ← HF.out]), below_drewN b0 _⟩
    · have HO1 : Hid (oneB s x.old = false) := by show _ = _; rw [HO4.out, h6]; rfl
      rw [h6] at hc2
      go_enter Tryz.func35, Tryz.ntmps35
      go_wp2_with fail
      refine hi.mono ?_
      rintro e w1 ⟨rfl, rfl⟩
      go_wp2_with fail
      go_quiet ((go_at_call 48; exact Calls.quiet_of_same (hc2 _)))
      go_wp2
      go_ret2
      exact ⟨ret_str_bool (impS_no HO1.out).symm (impG_no HO1.out).symm, below_drewN b0 _⟩

end Go.Proofs.YtmahfkimeclcbaaGreatDoor
