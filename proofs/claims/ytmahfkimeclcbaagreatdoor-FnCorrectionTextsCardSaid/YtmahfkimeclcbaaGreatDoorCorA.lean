/-
  YtmahfkimeclcbaaGreatDoorCorA: corrections: which texts are plain, which sheets are sheets, by contracts.
-/
import Derived.Test.YtmahfkimeclcbaaGreatDoorIn
namespace Go.Proofs.YtmahfkimeclcbaaGreatDoor
open Go Go.RowKit Go.Sort
set_option linter.unusedVariables false

def okByte (b : UInt8) : Bool := decide (32 ≤ (b.toNat : Int)) && decide ((b.toNat : Int) ≤ 126)
/-- All bytes are printable. -/
def plainB (s : ByteArray) : Bool := s.data.toList.all okByte
/-- A text that a line may be. -/
def lineB (s : ByteArray) : Bool := plainB s && decide ((s.size : Int) ≤ 40)
/-- A list that is a sheet. -/
def sheetB (l : List ByteArray) : Bool := l.all lineB && decide (l.length ≤ 12)
theorem plain_fails {s : ByteArray} {k : Nat} (hk : k < s.size) (h : okByte s[k] = false) : plainB s = false := all_fails (byte_get hk) h
theorem plain_upto {s : ByteArray} (h : ∀ j b, j < s.size → s.data.toList[j]? = some b → okByte b = true) : plainB s = true := all_upto (n := s.size) rfl h

set_option maxHeartbeats 400000 in
theorem l22Plain_any (s : ByteArray) (m : Int) (w : World) (hs : s.size ≤ maxLen) : Calls Tryz.prog 37 #[.string s, .int .i64 m] w fun e w' => e = .returned (.bool (plainB s && decide ((s.size : Int) ≤ m))) ∧ w = w' := by
  unfold maxLen at hs
  go_enter Tryz.func37, Tryz.ntmps37
  go_wp2
  go_loop [5] (fun i => ∃ k : Nat, k ≤ s.size ∧ i = .int .i64 k ∧ ∀ j b, j < k → s.data.toList[j]? = some b → okByte b = true) (fun i => s.size - (intOf i).toNat)
  case atStart => exact ⟨0, Nat.zero_le _, rfl, fun j b hj => absurd hj (by omega)⟩
  case round =>
    obtain ⟨k, hk, rfl, hup⟩ := hrel
    have HU := Lib.hid hup
    clear hup
    by_cases hlt : k < s.size
    · by_cases h1 : (s[k].toNat : Int) < 32
      · have E := Lib.hid (show (plainB s && decide ((s.size : Int) ≤ m)) = false by rw [plain_fails hlt (by simp [okByte]; omega)]; rfl)
        go_wp2
        go_ret
        exact ⟨ret_bool E.out.symm, rfl⟩
      · by_cases h2 : 126 < (s[k].toNat : Int)
        · have E := Lib.hid (show (plainB s && decide ((s.size : Int) ≤ m)) = false by rw [plain_fails hlt (by simp [okByte]; omega)]; rfl)
          go_wp2
          go_ret
          exact ⟨ret_bool E.out.symm, rfl⟩
        · have HN : Hid (∀ j b, j < k + 1 → s.data.toList[j]? = some b → okByte b = true) := fun j b hj hx => by
            by_cases e : j = k
            · subst e; rw [byte_get hlt] at hx; injection hx with hx; rw [← hx]; simp [okByte]; omega
            · exact HU.out j b (by omega) hx
          go_wp2
          go_round
          case rel => exact ⟨k + 1, by omega, by go_num, HN.out⟩
          case measure => simp [intOf]; omega
    · obtain rfl : k = s.size := by omega
      have E := Lib.hid (show plainB s = true from plain_upto HU.out)
      go_wp2
      go_ret
      exact ⟨ret_bool (by rw [E.out]; rfl), rfl⟩

set_option maxHeartbeats 400000 in
theorem arePrintable_any (s : ByteArray) (a b : Int) (w : World) (hs : s.size ≤ maxLen) : Calls Tryz.prog 58 #[.string s, .int .i64 a, .int .i64 b] w fun e w' => e = .returned (.bool (plainB s && inB s.size a b)) ∧ w = w' := by
  unfold maxLen at hs
  go_enter Tryz.func58, Tryz.ntmps58
  go_wp2
  go_loop [7] (fun i => ∃ k : Nat, k ≤ s.size ∧ i = .int .i64 k ∧ ∀ j b, j < k → s.data.toList[j]? = some b → okByte b = true) (fun i => s.size - (intOf i).toNat)
  case atStart => exact ⟨0, Nat.zero_le _, rfl, fun j b hj => absurd hj (by omega)⟩
  case round =>
    obtain ⟨k, hk, rfl, hup⟩ := hrel
    have HU := Lib.hid hup
    clear hup
    by_cases hlt : k < s.size
    · by_cases h1 : (s[k].toNat : Int) < 32
      · have E := Lib.hid (show (plainB s && inB s.size a b) = false by rw [plain_fails hlt (by simp [okByte]; omega)]; rfl)
        go_wp2
        go_ret
        exact ⟨ret_bool E.out.symm, rfl⟩
      · by_cases h2 : 126 < (s[k].toNat : Int)
        · have E := Lib.hid (show (plainB s && inB s.size a b) = false by rw [plain_fails hlt (by simp [okByte]; omega)]; rfl)
          go_wp2
          go_ret
          exact ⟨ret_bool E.out.symm, rfl⟩
        · have HN : Hid (∀ j b, j < k + 1 → s.data.toList[j]? = some b → okByte b = true) := fun j b hj hx => by
            by_cases e : j = k
            · subst e; rw [byte_get hlt] at hx; injection hx with hx; rw [← hx]; simp [okByte]; omega
            · exact HU.out j b (by omega) hx
          go_wp2
          go_round
          case rel => exact ⟨k + 1, by omega, by go_num, HN.out⟩
          case measure => simp [intOf]; omega
    · obtain rfl : k = s.size := by omega
      have E := Lib.hid (show plainB s = true from plain_upto HU.out)
      go_wp2_with fail
      refine (inside_any _ _ _ _).mono ?_
      rintro e w1 ⟨rfl, rfl⟩
      go_wp2
      go_ret
      exact ⟨ret_bool (by rw [E.out]; rfl), rfl⟩

theorem isLine_any (s : ByteArray) (w : World) (hs : s.size ≤ maxLen) : Calls Tryz.prog 33 #[.string s] w fun e w' => e = .returned (.bool (lineB s)) ∧ w = w' := by
  have E := Lib.hid (show (plainB s && inB s.size 0 40) = lineB s by simp [lineB, inB])
  go_enter Tryz.func33, Tryz.ntmps33
  go_wp2_with fail
  refine (arePrintable_any _ _ _ _ hs).mono ?_
  rintro e w1 ⟨rfl, rfl⟩
  go_wp2
  go_ret
  exact ⟨ret_bool E.out, rfl⟩

theorem badLine_any (s : ByteArray) (w : World) (hs : s.size ≤ maxLen) : Calls Tryz.prog 63 #[.string s] w fun e w' => e = .returned (.bool (!lineB s)) ∧ w = w' := by
  go_enter Tryz.func63, Tryz.ntmps63
  go_wp2_with fail
  refine (isLine_any _ _ hs).mono ?_
  rintro e w1 ⟨rfl, rfl⟩
  go_wp2
  go_ret
  exact ⟨rfl, rfl⟩

set_option maxHeartbeats 400000 in
theorem l22Sheet_any (A : Option Addr) (n c : Nat) (l : List ByteArray) (w : World) (ha : Rd stV 1 w A n c l) (hg : ∀ x ∈ l, x.size ≤ maxLen) :
    Calls Tryz.prog 64 #[.slice A n c] w fun e w' => e = .returned (.bool (sheetB l)) ∧ w = w' := by
  have hm := ha.le
  have hlen := ha.len
  have HL := Lib.hid hlen
  clear hlen
  go_enter Tryz.func64, Tryz.ntmps64
  go_wp2
  go_loop [3] (fun i => ∃ k : Nat, k ≤ n ∧ i = .int .i64 k ∧ ∀ j x, j < k → l[j]? = some x → lineB x = true) (fun i => n - (intOf i).toNat)
  case atStart => exact ⟨0, Nat.zero_le _, rfl, fun j x hj => absurd hj (by omega)⟩
  case round =>
    obtain ⟨k, hk, rfl, hup⟩ := hrel
    have HU := Lib.hid hup
    clear hup
    by_cases hlt : k < n
    · obtain ⟨b1, o1, s, rfl, hs, c0⟩ := ha.st hlt
      have HS := Lib.hid hs
      have hgs := hg s (List.mem_of_getElem? hs)
      clear hs ha
      cases h1 : lineB s
      · have h1' : (plainB s && decide ((s.size : Int) ≤ 40)) = false := h1
        have E := Lib.hid (show sheetB l = false by unfold sheetB; rw [all_fails HS.out h1]; rfl)
        clear h1
        go_wp2_with fail
        refine (l22Plain_any _ _ _ hgs).mono ?_
        rintro e w1 ⟨rfl, rfl⟩
        go_wp2
        go_ret
        exact ⟨ret_bool E.out.symm, rfl⟩
      · have h1' : (plainB s && decide ((s.size : Int) ≤ 40)) = true := h1
        have HN : Hid (∀ j x, j < k + 1 → l[j]? = some x → lineB x = true) := fun j x hj hx => by
            by_cases e : j = k
            · subst e; rw [HS.out] at hx; injection hx with hx; rw [← hx]; exact h1
            · exact HU.out j x (by omega) hx
        clear h1
        go_wp2_with fail
        refine (l22Plain_any _ _ _ hgs).mono ?_
        rintro e w1 ⟨rfl, rfl⟩
        go_wp2
        go_round
        case rel => exact ⟨k + 1, by omega, by go_num, HN.out⟩
        case measure => simp [intOf]; omega
    · obtain rfl : k = n := by omega
      have E := Lib.hid (show sheetB l = decide ((k : Int) ≤ 12) by unfold sheetB; rw [all_upto HL.out HU.out, HL.out]; simp; omega)
      clear ha
      go_wp2
      go_ret
      exact ⟨ret_bool E.out.symm, rfl⟩

set_option maxHeartbeats 400000 in
theorem IndexBad_any (A : Option Addr) (n c : Nat) (l : List ByteArray) (w : World) (ha : Rd stV 1 w A n c l) (hg : ∀ x ∈ l, x.size ≤ maxLen) :
    Calls Tryz.prog 74 #[.slice A n c, .func (.func 63) #[] #[]] w fun e w' => (∃ r : Int, e = .returned (.int .i64 r) ∧ decide (0 ≤ r) = !l.all lineB) ∧ w = w' := by
  have hm := ha.le
  have hlen := ha.len
  have HL := Lib.hid hlen
  clear hlen
  go_enter Tryz.func74, Tryz.ntmps74
  go_wp2
  go_loop [8] (fun i => ∃ k : Nat, k ≤ n ∧ i = .int .i64 k ∧ ∀ j x, j < k → l[j]? = some x → lineB x = true) (fun i => n - (intOf i).toNat)
  case atStart => exact ⟨0, Nat.zero_le _, rfl, fun j x hj => absurd hj (by omega)⟩
  case round =>
    obtain ⟨k, hk, rfl, hup⟩ := hrel
    have HU := Lib.hid hup
    clear hup
    by_cases hlt : k < n
    · obtain ⟨b1, o1, s, rfl, hs, c0⟩ := ha.st hlt
      have HS := Lib.hid hs
      have hgs := hg s (List.mem_of_getElem? hs)
      clear hs ha
      cases h1 : lineB s
      · have E := Lib.hid (show l.all lineB = false from all_fails HS.out h1)
        have h1' : (!lineB s) = true := by simpa using h1
        clear h1
        go_wp2_with fail
        refine (badLine_any _ _ hgs).mono ?_
        rintro e w2 ⟨rfl, rfl⟩
        go_wp2
        go_ret
        exact ⟨⟨_, rfl, by rw [E.out]; simp⟩, rfl⟩
      · have h1' : (!lineB s) = false := by simpa using h1
        have HN : Hid (∀ j x, j < k + 1 → l[j]? = some x → lineB x = true) := fun j x hj hx => by
            by_cases e : j = k
            · subst e; rw [HS.out] at hx; injection hx with hx; rw [← hx]; exact h1
            · exact HU.out j x (by omega) hx
        clear h1
        go_wp2_with fail
        refine (badLine_any _ _ hgs).mono ?_
        rintro e w2 ⟨rfl, rfl⟩
        go_wp2
        go_round
        case rel => exact ⟨k + 1, by omega, by go_num, HN.out⟩
        case measure => simp [intOf]; omega
    · obtain rfl : k = n := by omega
      have E := Lib.hid (all_upto HL.out HU.out)
      clear ha
      go_wp2
      go_ret
      exact ⟨⟨_, rfl, by rw [E.out]; simp⟩, rfl⟩

theorem ContainsBad_any (A : Option Addr) (n c : Nat) (l : List ByteArray) (w : World) (ha : Rd stV 1 w A n c l) (hg : ∀ x ∈ l, x.size ≤ maxLen) :
    Calls Tryz.prog 62 #[.slice A n c, .func (.func 63) #[] #[]] w fun e w' => e = .returned (.bool (!l.all lineB)) ∧ w = w' := by
  go_enter Tryz.func62, Tryz.ntmps62
  go_wp2_with fail
  refine (IndexBad_any _ _ _ _ _ ha hg).mono ?_
  rintro e w2 ⟨⟨r, rfl, hr⟩, rfl⟩
  have HR := Lib.hid hr
  clear hr
  go_wp2
  go_ret
  exact ⟨ret_bool HR.out, rfl⟩

theorem implIsSheet_any (A : Option Addr) (n c : Nat) (l : List ByteArray) (w : World) (ha : Rd stV 1 w A n c l) (hg : ∀ x ∈ l, x.size ≤ maxLen) :
    Calls Tryz.prog 39 #[.slice A n c] w fun e w' => e = .returned (.bool (sheetB l)) ∧ w = w' := by
  by_cases hn : (n : Int) ≤ 12
  · have E := Lib.hid (show (!!l.all lineB) = sheetB l by simp [sheetB, ha.len]; intro; omega)
    go_enter Tryz.func39, Tryz.ntmps39
    go_wp2_with fail
    refine (ContainsBad_any _ _ _ _ _ ha hg).mono ?_
    rintro e w2 ⟨rfl, rfl⟩
    go_wp2
    go_ret
    exact ⟨ret_bool (by simpa using E.out), rfl⟩
  · have E := Lib.hid (show sheetB l = false by simp [sheetB, ha.len]; intro; omega)
    go_enter Tryz.func39, Tryz.ntmps39
    go_wp2
    go_ret
    exact ⟨ret_bool E.out.symm, rfl⟩

end Go.Proofs.YtmahfkimeclcbaaGreatDoor
