/-
  YtdipeigcgmnhjaaDoorCorS: corrections: which texts are plain, which corrections are as described; what a text door needs. (Picked by wip/gen/pickb.py.)
-/
import Derived.Test.YtdipeigcgmnhjaaDoorIn
import Derived.BigQuiet
namespace Go.Proofs.YtdipeigcgmnhjaaDoor
open Go Go.RowKit Go.Sort
set_option linter.unusedVariables false

def okByte (b : UInt8) : Bool := decide (32 ≤ (b.toNat : Int)) && decide ((b.toNat : Int) ≤ 126)

/-- All bytes are printable. -/
def plainB (s : ByteArray) : Bool := s.data.toList.all okByte

/-- A text that a line may be. -/
def lineB (s : ByteArray) : Bool := plainB s && decide ((s.size : Int) ≤ 40)

theorem plain_fails {s : ByteArray} {k : Nat} (hk : k < s.size) (h : okByte s[k] = false) : plainB s = false := all_fails (byte_get hk) h

theorem plain_upto {s : ByteArray} (h : ∀ j b, j < s.size → s.data.toList[j]? = some b → okByte b = true) : plainB s = true := all_upto (n := s.size) rfl h

set_option maxHeartbeats 400000 in
theorem l22Plain_any (s : ByteArray) (m : Int) (w : World) (hs : s.size ≤ maxLen) : Calls Tryd.prog 34 #[.string s, .int .i64 m] w fun e w' => e = .returned (.bool (plainB s && decide ((s.size : Int) ≤ m))) ∧ w = w' := by
  unfold maxLen at hs
  go_enter Tryd.func34, Tryd.ntmps34
  go_wp2
  go_loop [5] (fun i => ∃ k : Nat, k ≤ s.size ∧ i = .int .i64 k ∧ ∀ j b, j < k → s.data.toList[j]? = some b → okByte b = true) (fun i => s.size - (intOf i).toNat)
  case atStart => exact ⟨0, Nat.zero_le _, rfl, fun j b hj => absurd hj (by omega)⟩
  case round =>
    obtain ⟨k, hk, rfl, hup⟩ := hrel
    have HU := Lib.hid hup
    clear hup
    by_cases hlt : k < s.size
    · by_cases h1 : (s[k].toNat : Int) < 32
      · have E := Lib.hid (show (plainB s && decide ((s.size : Int) ≤ m)) = false by rw [plain_fails hlt (by simp [okByte]; omega)]; rfl)
        go_wp2
        go_ret
        exact ⟨ret_bool E.out.symm, rfl⟩
      · by_cases h2 : 126 < (s[k].toNat : Int)
        · have E := Lib.hid (show (plainB s && decide ((s.size : Int) ≤ m)) = false by rw [plain_fails hlt (by simp [okByte]; omega)]; rfl)
          go_wp2
          go_ret
          exact ⟨ret_bool E.out.symm, rfl⟩
        · have HN : Hid (∀ j b, j < k + 1 → s.data.toList[j]? = some b → okByte b = true) := fun j b hj hx => by
            by_cases e : j = k
            · subst e; rw [byte_get hlt] at hx; injection hx with hx; rw [← hx]; simp [okByte]; omega
            · exact HU.out j b (by omega) hx
          go_wp2
          go_round
          case rel => exact ⟨k + 1, by omega, by go_num, HN.out⟩
          case measure => simp [intOf]; omega
    · obtain rfl : k = s.size := by omega
      have E := Lib.hid (show plainB s = true from plain_upto HU.out)
      go_wp2
      go_ret
      exact ⟨ret_bool (by rw [E.out]; rfl), rfl⟩

set_option maxHeartbeats 400000 in
theorem arePrintable_any (s : ByteArray) (a b : Int) (w : World) (hs : s.size ≤ maxLen) : Calls Tryd.prog 35 #[.string s, .int .i64 a, .int .i64 b] w fun e w' => e = .returned (.bool (plainB s && inB s.size a b)) ∧ w = w' := by
  unfold maxLen at hs
  go_enter Tryd.func35, Tryd.ntmps35
  go_wp2
  go_loop [7] (fun i => ∃ k : Nat, k ≤ s.size ∧ i = .int .i64 k ∧ ∀ j b, j < k → s.data.toList[j]? = some b → okByte b = true) (fun i => s.size - (intOf i).toNat)
  case atStart => exact ⟨0, Nat.zero_le _, rfl, fun j b hj => absurd hj (by omega)⟩
  case round =>
    obtain ⟨k, hk, rfl, hup⟩ := hrel
    have HU := Lib.hid hup
    clear hup
    by_cases hlt : k < s.size
    · by_cases h1 : (s[k].toNat : Int) < 32
      · have E := Lib.hid (show (plainB s && inB s.size a b) = false by rw [plain_fails hlt (by simp [okByte]; omega)]; rfl)
        go_wp2
        go_ret
        exact ⟨ret_bool E.out.symm, rfl⟩
      · by_cases h2 : 126 < (s[k].toNat : Int)
        · have E := Lib.hid (show (plainB s && inB s.size a b) = false by rw [plain_fails hlt (by simp [okByte]; omega)]; rfl)
          go_wp2
          go_ret
          exact ⟨ret_bool E.out.symm, rfl⟩
        · have HN : Hid (∀ j b, j < k + 1 → s.data.toList[j]? = some b → okByte b = true) := fun j b hj hx => by
            by_cases e : j = k
            · subst e; rw [byte_get hlt] at hx; injection hx with hx; rw [← hx]; simp [okByte]; omega
            · exact HU.out j b (by omega) hx
          go_wp2
          go_round
          case rel => exact ⟨k + 1, by omega, by go_num, HN.out⟩
          case measure => simp [intOf]; omega
    · obtain rfl : k = s.size := by omega
      have E := Lib.hid (show plainB s = true from plain_upto HU.out)
      go_wp2_with fail
      refine (inside_any _ _ _ _).mono ?_
      rintro e w1 ⟨rfl, rfl⟩
      go_wp2
      go_ret
      exact ⟨ret_bool (by rw [E.out]; rfl), rfl⟩

/-- A correction's texts are as described. -/
def coOK (x : CO) : Bool := (plainB x.old && inB x.old.size 1 20) && (plainB x.new && inB x.new.size 0 20) && !(x.old.toList == x.new.toList)

theorem toList_ne {p : ByteArray} (h : 0 < p.size) : p.toList.isEmpty = false := by
  cases he : p.toList.isEmpty
  · rfl
  · exfalso
    have h2 := (toList_nil_iff_emptyBytes p).1 (List.isEmpty_iff.1 he)
    subst h2
    simp at h

theorem size_zero {p : ByteArray} (h : p.size = 0) : p = ⟨#[]⟩ := by
  cases p with
  | mk d => cases d with | mk l => cases l with
    | nil => rfl
    | cons a t => cases h

set_option maxRecDepth 100000 in
set_option maxHeartbeats 1000000 in
theorem isCorrection_any (x : CO) (w : World) (h0 : x.old.size ≤ maxLen) (h1 : x.new.size ≤ maxLen) :
    Calls Tryd.prog 27 #[.agg #[.int .i64 x.line, .string x.old, .string x.new]] w fun e w' => e = .returned (.bool (coOK x)) ∧ Below w.heap.size w w' := by
  go_enter Tryd.func27, Tryd.ntmps27
  go_wp2_with (go_at_call 35; refine (arePrintable_any _ _ _ _ (by first | exact h0 | exact h1)).mono ?_; rintro e w1 ⟨rfl, rfl⟩)
  all_goals go_ret
  all_goals exact ⟨ret_bool (by simp_all [coOK]), below_alloc _⟩

set_option maxRecDepth 100000 in
set_option maxHeartbeats 1000000 in
theorem l22One_any (x : CO) (w : World) (h0 : x.old.size ≤ maxLen) (h1 : x.new.size ≤ maxLen) :
    Calls Tryd.prog 23 #[.agg #[.int .i64 x.line, .string x.old, .string x.new]] w fun e w' => e = .returned (.bool (coOK x)) ∧ Below w.heap.size w w' := by
  have hz : inB x.new.size 0 20 = decide ((x.new.size : Int) ≤ 20) := by simp [inB]
  have hy : inB x.old.size 1 20 = (decide ((x.old.size : Int) ≤ 20) && !x.old.toList.isEmpty) := by
    by_cases h : 0 < x.old.size
    · rw [toList_ne h]; simp [inB]; omega
    · have h2 : x.old.size = 0 := by omega
      have : x.old.toList.isEmpty = true := List.isEmpty_iff.2 ((toList_nil_iff_emptyBytes x.old).2 (size_zero h2))
      rw [this, h2]; rfl
  have HZ := Lib.hid hz
  have HY := Lib.hid hy
  clear hz hy
  go_enter Tryd.func23, Tryd.ntmps23
  go_wp2_with (go_at_call 34; refine (l22Plain_any _ _ _ (by first | exact h0 | exact h1)).mono ?_; rintro e w1 ⟨rfl, rfl⟩)
  all_goals go_ret
  all_goals exact ⟨ret_bool (by unfold coOK; rw [HZ.out, HY.out]; clear HZ HY; generalize plainB x.old = a1 at *; generalize plainB x.new = a2 at *; cases a1 <;> cases a2 <;> simp_all <;> (intros; omega)), below_alloc _⟩

end Go.Proofs.YtdipeigcgmnhjaaDoor
