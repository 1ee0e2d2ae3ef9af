/-
  YtcockjjilcapaaaGreatDoorSlipA: slips: checksums, seals, the text of a ballot (SlipText on both sides), by contracts. (Printed by wip/gen/slip.py.)
-/
import Derived.Test.YtcockjjilcapaaaGreatDoorBalA
import Derived.Test.YtcockjjilcapaaaGreatDoorCut
import Derived.Test.YtcockjjilcapaaaGreatDoorTab
import Derived.Test.YtcockjjilcapaaaGreatDoorShelf
import Derived.IntWalk
import Derived.Lib.Repeat
namespace Go.Proofs.YtcockjjilcapaaaGreatDoor
open Go Go.RowKit Go.Sort
set_option linter.unusedVariables false
set_option linter.unusedSimpArgs false

/-! ### checksums -/
def sumN (n : Nat) (l : List UInt8) : Nat := l.foldl (fun n b => (41 * n + b.toNat + 1) % 999979) n
def sumS (s : ByteArray) : Nat := sumN 7 s.data.toList
theorem sumN_snoc (n : Nat) (l : List UInt8) (b : UInt8) : sumN n (l ++ [b]) = (41 * sumN n l + b.toNat + 1) % 999979 := by unfold sumN; rw [List.foldl_append]; rfl
theorem sumN_lt {n : Nat} (hn : n < 999979) (l : List UInt8) : sumN n l < 999979 := by
  unfold sumN
  induction l generalizing n with
  | nil => exact hn
  | cons b r ih => exact ih (Nat.mod_lt _ (by omega))
theorem sumS_lt (s : ByteArray) : sumS s < 999979 := sumN_lt (by omega) _
theorem take_snocB (s : ByteArray) (k : Nat) (h : k < s.size) : s.data.toList.take (k + 1) = s.data.toList.take k ++ [s[k]] := by
  rw [List.take_add_one, byte_get h]; rfl

set_option maxRecDepth 100000 in
theorem checksum_any (s : ByteArray) (w : World) (hs : s.size ≤ 4194304) : Calls Tryz.prog 62 #[.string s] w fun e w' => e = .returned (.int .i64 (sumS s : Int)) ∧ w = w' := by
  go_enter Tryz.func62, Tryz.ntmps62
  go_wp2
  go_loop [3, 4] (fun v i => ∃ k : Nat, k ≤ s.size ∧ i = .int .i64 k ∧ v = .int .i64 (sumN 7 (s.data.toList.take k) : Int)) (fun _ i => s.size - (intOf i).toNat)
  case atStart => exact ⟨0, Nat.zero_le _, rfl, rfl⟩
  case round =>
    obtain ⟨k, hk, rfl, rfl⟩ := hrel
    have hl := sumN_lt (n := 7) (by omega) (s.data.toList.take k)
    by_cases hlt : k < s.size
    · have hb : (s[k].toNat : Int) ≤ 255 := by have := s[k].toNat_lt; omega
      have E : Hid (sumN 7 (s.data.toList.take (k + 1)) = (41 * sumN 7 (s.data.toList.take k) + s[k].toNat + 1) % 999979) := by show _ = _; rw [take_snocB s k hlt, sumN_snoc]
      generalize sumN 7 (s.data.toList.take k) = a at *
      go_wp2
      go_round
      case rel => exact ⟨k + 1, by omega, by go_num, by rw [E.out]; congr 1⟩
      case measure => simp [intOf]; omega
    · obtain rfl : k = s.size := by omega
      have E : Hid (sumN 7 (s.data.toList.take s.size) = sumS s) := by show _ = _; have e9 : s.data.toList.take s.size = s.data.toList := List.take_of_length_le (Nat.le_refl _); rw [e9]; rfl
      go_wp2
      go_ret
      exact ⟨ret_int (by rw [E.out]), rfl⟩

set_option maxRecDepth 100000 in
theorem l1Sum_any (s : ByteArray) (w : World) (hs : s.size ≤ 4194304) : Calls Tryz.prog 70 #[.string s] w fun e w' => e = .returned (.int .i64 (sumS s : Int)) ∧ w = w' := by
  go_enter Tryz.func70, Tryz.ntmps70
  go_wp2
  go_loop [3, 4] (fun v i => ∃ k : Nat, k ≤ s.size ∧ i = .int .i64 k ∧ v = .int .i64 (sumN 7 (s.data.toList.take k) : Int)) (fun _ i => s.size - (intOf i).toNat)
  case atStart => exact ⟨0, Nat.zero_le _, rfl, rfl⟩
  case round =>
    obtain ⟨k, hk, rfl, rfl⟩ := hrel
    have hl := sumN_lt (n := 7) (by omega) (s.data.toList.take k)
    by_cases hlt : k < s.size
    · have hb : (s[k].toNat : Int) ≤ 255 := by have := s[k].toNat_lt; omega
      have E : Hid (sumN 7 (s.data.toList.take (k + 1)) = (41 * sumN 7 (s.data.toList.take k) + s[k].toNat + 1) % 999979) := by show _ = _; rw [take_snocB s k hlt, sumN_snoc]
      generalize sumN 7 (s.data.toList.take k) = a at *
      go_wp2
      go_round
      case rel => exact ⟨k + 1, by omega, by go_num, by rw [E.out]; congr 1⟩
      case measure => simp [intOf]; omega
    · obtain rfl : k = s.size := by omega
      have E : Hid (sumN 7 (s.data.toList.take s.size) = sumS s) := by show _ = _; have e9 : s.data.toList.take s.size = s.data.toList := List.take_of_length_le (Nat.le_refl _); rw [e9]; rfl
      go_wp2
      go_ret
      exact ⟨ret_int (by rw [E.out]), rfl⟩

def sealS (s : ByteArray) : ByteArray := s ++ (⟨#[35]⟩ : ByteArray) ++ numS (sumS s)
theorem szHash : (⟨#[35]⟩ : ByteArray).size = 1 := rfl
theorem sealS_size (s : ByteArray) : (sealS s).size = s.size + 1 + (numS (sumS s)).size := by unfold sealS; simp only [ByteArray.size_append, szHash]
theorem seal_num (s : ByteArray) : (numS (sumS s)).size ≤ 6 := numS_six (by have := sumS_lt s; omega)
set_option maxRecDepth 100000 in
theorem l1Seal_any (s : ByteArray) (w : World) (hs : s.size ≤ 4194304) : Calls Tryz.prog 43 #[.string s] w fun e w' => e = .returned (.string (sealS s)) ∧ Below w.heap.size w w' := by
  have z := seal_num s
  have hl := sumS_lt s
  have m1 : (s ++ (⟨#[35]⟩ : ByteArray)).size ≤ maxLen := by simp only [ByteArray.size_append, szHash, maxLen]; omega
  have m2 : (s ++ (⟨#[35]⟩ : ByteArray) ++ numS (sumS s)).size ≤ maxLen := by simp only [ByteArray.size_append, szHash, maxLen]; omega
  go_enter Tryz.func43, Tryz.ntmps43
  go_wp2_with fail
  refine (l1Sum_any s _ hs).mono ?_
  rintro e w1 ⟨rfl, rfl⟩
  go_wp2_with fail
  refine (l1Num_any (sumS s) _ (by omega)).mono ?_
  rintro e w2 ⟨rfl, b2⟩
  go_wp2
  go_ret
  exact ⟨rfl, b2⟩

/-- What AppendChecksum gives. -/
def hashB (s : ByteArray) : Bool := decide (0 ≤ Lib.indexByte s.data.toList 35)
def appG (s : ByteArray) : Bool := !(decide (4000 < s.size) || hashB s) && !decide (4000 < (sealS s).size)
def appS (s : ByteArray) : ByteArray := if appG s then sealS s else ByteArray.empty
set_option maxRecDepth 100000 in
set_option maxHeartbeats 1000000 in
theorem AppendChecksum_any (s : ByteArray) (w : World) (hs : s.size ≤ 4194304) (hT : Lib.TabIs Tryz.prog w "internal/strconv.uint64pow10" .u64 Lib.pow10Tab) :
    Calls Tryz.prog 39 #[.string s] w fun e w' => e = .returned (.tuple #[.string (appS s), .bool (appG s)]) ∧ Below w.heap.size w w' := by
  have HT := Lib.hid hT
  clear hT
  by_cases h4 : 4000 < s.size
  · have E : Hid (appG s = false) := by show _ = _; simp [appG, h4]
    have E2 : Hid (appS s = ByteArray.empty) := by show _ = _; simp [appS, E.out]
    go_enter Tryz.func39, Tryz.ntmps39
    go_wp2
    go_ret2
    exact ⟨by rw [E.out, E2.out]; rfl, Below.refl _ _⟩
  have H4 := Lib.hid h4
  have h4' : s.size ≤ 4000 := by omega
  clear h4
  have HC := Lib.hid (Tryz.strings_Contains_one s 35 w)
  cases hh : hashB s
  rotate_left
  · have E : Hid (appG s = false) := by show _ = _; simp [appG, hh]
    have E2 : Hid (appS s = ByteArray.empty) := by show _ = _; simp [appS, E.out]
    have hd : decide (0 ≤ Lib.indexByte s.data.toList 35) = true := hh
    have HD := Lib.hid hd
    clear hh hd
    go_enter Tryz.func39, Tryz.ntmps39
    go_wp2_with fail
    refine HC.out.mono ?_
    rintro e w1 ⟨rfl, hw1⟩
    replace hw1 := hw1.symm
    subst hw1
    rw [HD.out]
    go_wp2
    go_ret2
    exact ⟨by rw [E.out, E2.out]; rfl, Below.refl _ _⟩
  have hd : decide (0 ≤ Lib.indexByte s.data.toList 35) = false := hh
  have HD := Lib.hid hd
  have HH := Lib.hid hh
  have z := seal_num s
  have hl := sumS_lt s
  have m1 : (s ++ (⟨#[35]⟩ : ByteArray)).size ≤ maxLen := by simp only [ByteArray.size_append, szHash, maxLen]; omega
  have m2 : (s ++ (⟨#[35]⟩ : ByteArray) ++ numS (sumS s)).size ≤ maxLen := by simp only [ByteArray.size_append, szHash, maxLen]; omega
  have HI := Lib.hid (itoa_tab (sumS s : Int) w HT.out (by omega) (by omega))
  have HN : Hid (numS (sumS s : Int).toNat = numS (sumS s)) := by show _ = _; rw [Int.toNat_natCast]
  clear hh hd
  by_cases h5 : 4000 < s.size + 1 + (numS (sumS s)).size
  · have E : Hid (appG s = false) := by show _ = _; unfold appG; rw [sealS_size, decide_eq_true h5]; simp
    have E2 : Hid (appS s = ByteArray.empty) := by show _ = _; simp [appS, E.out]
    go_enter Tryz.func39, Tryz.ntmps39
    go_wp2_with fail
    refine HC.out.mono ?_
    rintro e w1 ⟨rfl, hw1⟩
    replace hw1 := hw1.symm
    subst hw1
    rw [HD.out]
    go_wp2_with fail
    refine (checksum_any s _ hs).mono ?_
    rintro e w1 ⟨rfl, rfl⟩
    go_wp2_with fail
    refine HI.out.mono ?_
    rintro e w2 ⟨rfl, b2⟩
    rw [HN.out]
    go_wp2
    go_ret2
    exact ⟨by rw [E.out, E2.out]; rfl, b2⟩
  · have E : Hid (appG s = true) := by show _ = _; unfold appG; rw [sealS_size, HH.out, decide_eq_false h5, decide_eq_false H4.out]; rfl
    have E2 : Hid (appS s = s ++ (⟨#[35]⟩ : ByteArray) ++ numS (sumS s)) := by show _ = _; rw [appS, E.out]; rfl
    go_enter Tryz.func39, Tryz.ntmps39
    go_wp2_with fail
    refine HC.out.mono ?_
    rintro e w1 ⟨rfl, hw1⟩
    replace hw1 := hw1.symm
    subst hw1
    rw [HD.out]
    go_wp2_with fail
    refine (checksum_any s _ hs).mono ?_
    rintro e w1 ⟨rfl, rfl⟩
    go_wp2_with fail
    refine HI.out.mono ?_
    rintro e w2 ⟨rfl, b2⟩
    rw [HN.out]
    go_wp2
    go_ret2
    exact ⟨by rw [E.out, E2.out]; rfl, b2⟩

/-! ### the text of a ballot -/
def d4 (c : Nat) : ByteArray := ⟨#[UInt8.ofNat (48 + c / 1000), UInt8.ofNat (48 + c / 100 % 10), UInt8.ofNat (48 + c / 10 % 10), UInt8.ofNat (48 + c % 10)]⟩
theorem two_of {n : Nat} (h : n < 100) : numS (n / 10) ++ numS (n % 10) = ⟨#[UInt8.ofNat (48 + n / 10), UInt8.ofNat (48 + n % 10)]⟩ := by
  rw [numS_small (by omega), numS_small (by omega)]; rfl
theorem d4_two {c : Nat} (h : c < 10000) : (⟨#[UInt8.ofNat (48 + c / 100 / 10), UInt8.ofNat (48 + c / 100 % 10)]⟩ : ByteArray) ++ ⟨#[UInt8.ofNat (48 + c % 100 / 10), UInt8.ofNat (48 + c % 100 % 10)]⟩ = d4 c := by
  unfold d4
  rw [show c / 100 / 10 = c / 1000 from by omega, show c % 100 / 10 = c / 10 % 10 from by omega, show c % 100 % 10 = c % 10 from by omega]
  rfl
theorem numS_len {c : Nat} (h : c < 10000) : (numS c).size ≤ 4 := by
  by_cases h1 : c < 10
  · rw [numS_small h1]; show 1 ≤ 4; omega
  rw [numS_big h1, ByteArray.size_append]
  by_cases h2 : c / 10 < 10
  · rw [numS_small h2]; show 2 ≤ 4; omega
  rw [numS_big h2, ByteArray.size_append]
  by_cases h3 : c / 10 / 10 < 10
  · rw [numS_small h3]; show 3 ≤ 4; omega
  rw [numS_big h3, ByteArray.size_append, numS_small (by omega)]
  show 4 ≤ 4; omega
theorem d4_pad {c : Nat} (h : c < 10000) : (⟨(Lib.repeatL (⟨#[48]⟩ : ByteArray).data.toList (4 - (numS c).size)).toArray⟩ : ByteArray) ++ numS c = d4 c := by
  unfold d4
  by_cases h1 : c < 10
  · rw [numS_small h1, show c / 1000 = 0 from by omega, show c / 100 % 10 = 0 from by omega, show c / 10 % 10 = 0 from by omega, show c % 10 = c from by omega]; rfl
  rw [numS_big h1]
  by_cases h2 : c / 10 < 10
  · rw [numS_small h2, show c / 1000 = 0 from by omega, show c / 100 % 10 = 0 from by omega, show c / 10 % 10 = c / 10 from by omega]; rfl
  rw [numS_big h2]
  by_cases h3 : c / 10 / 10 < 10
  · rw [numS_small h3, show c / 1000 = 0 from by omega, show c / 100 % 10 = c / 10 / 10 from by omega]; rfl
  rw [numS_big h3, numS_small (by omega), show c / 10 / 10 / 10 = c / 1000 from by omega, show c / 10 / 10 % 10 = c / 100 % 10 from by omega]
  rfl
theorem d4_size (c : Nat) : (d4 c).size = 4 := rfl
def chS (x : BA) : ByteArray := if x.ch.toList.isEmpty then (⟨#[45]⟩ : ByteArray) else x.ch
def bodyS (x : BA) : ByteArray := d4 x.code.toNat ++ (⟨#[32]⟩ : ByteArray) ++ chS x
def slipS (x : BA) : ByteArray := sealS (bodyS x)
theorem szSp : (⟨#[32]⟩ : ByteArray).size = 1 := rfl
theorem szDash : (⟨#[45]⟩ : ByteArray).size = 1 := rfl
theorem bOK_sz {x : BA} (h : bOK x = true) : 1 ≤ x.code ∧ x.code ≤ 9999 ∧ x.ch.size ≤ 10 := by
  unfold bOK at h
  rw [Bool.and_eq_true, inB_iff, Bool.or_eq_true] at h
  refine ⟨h.1.1, h.1.2, ?_⟩
  rcases h.2 with h | h
  · rw [(toList_nil_iff_emptyBytes _).1 (List.isEmpty_iff.1 h)]; exact Nat.zero_le _
  · exact (word_size h).2
theorem chS_size {x : BA} (h : x.ch.size ≤ 10) : (chS x).size ≤ 10 := by
  unfold chS
  split
  · show 1 ≤ 10; omega
  · exact h
theorem bodyS_size {x : BA} (h : x.ch.size ≤ 10) : (bodyS x).size ≤ 15 := by
  have := chS_size h
  unfold bodyS
  simp only [ByteArray.size_append, szSp, d4_size]
  omega
set_option maxRecDepth 100000 in
theorem l5Two_any (n : Nat) (w : World) (hn : n < 100) : Calls Tryz.prog 44 #[.int .i64 (n : Int)] w fun e w' => e = .returned (.string ⟨#[UInt8.ofNat (48 + n / 10), UInt8.ofNat (48 + n % 10)]⟩) ∧ Below w.heap.size w w' := by
  have E := Lib.hid (two_of hn)
  have z1 := numS_size (n := n / 10) (by omega)
  have z2 := numS_size (n := n % 10) (by omega)
  have m : (numS (n / 10) ++ numS (n % 10)).size ≤ maxLen := by rw [ByteArray.size_append]; simp only [maxLen]; omega
  have C1 := Lib.hid (fun w => l1Num_any (n / 10) w (by omega))
  have C2 := Lib.hid (fun w => l1Num_any (n % 10) w (by omega))
  go_enter Tryz.func44, Tryz.ntmps44
  go_wp2_with fail
  refine (C1.out _).mono ?_
  rintro e w1 ⟨rfl, b1⟩
  go_wp2_with fail
  refine (C2.out _).mono ?_
  rintro e w2 ⟨rfl, b2⟩
  go_wp2
  go_ret
  exact ⟨ret_str E.out, below_trans b1 b2⟩

set_option maxRecDepth 100000 in
set_option maxHeartbeats 1000000 in
theorem l20Slip_any (x : BA) (w : World) (h : bOK x = true) : Calls Tryz.prog 19 #[.agg #[.int .i64 x.code, .string x.ch]] w fun e w' => e = .returned (.string (slipS x)) ∧ Below w.heap.size w w' := by
  obtain ⟨h0, h1, h2⟩ := bOK_sz h
  clear h
  obtain ⟨code, ch⟩ := x
  dsimp only at h0 h1 h2
  obtain ⟨c, rfl⟩ := Int.eq_ofNat_of_zero_le (show 0 ≤ code by omega)
  have hc0 : c < 10000 := by omega
  have hW : Below w.heap.size w (w.alloc (.cells #[.int .i64 (c : Int), .string ch] 25)) := below_alloc _
  have c0 := cell_regrown (cell_of_row (w.alloc (.cells #[.int .i64 (c : Int), .string ch] 25)) w.heap.size 0 _ _ _ (heap_new rfl))
  have cc := cell_of_row (w.alloc (.cells #[.int .i64 (c : Int), .string ch] 25)) w.heap.size 1 _ _ _ (heap_new rfl)
  have C1 := Lib.hid (fun w => l5Two_any (c / 100) w (by omega))
  have C2 := Lib.hid (fun w => l5Two_any (c % 100) w (by omega))
  obtain ⟨t1, ht1⟩ : ∃ t, t = (⟨#[UInt8.ofNat (48 + c / 100 / 10), UInt8.ofNat (48 + c / 100 % 10)]⟩ : ByteArray) := ⟨_, rfl⟩
  obtain ⟨t2, ht2⟩ : ∃ t, t = (⟨#[UInt8.ofNat (48 + c % 100 / 10), UInt8.ofNat (48 + c % 100 % 10)]⟩ : ByteArray) := ⟨_, rfl⟩
  have z1 : t1.size = 2 := by rw [ht1]; rfl
  have z2 : t2.size = 2 := by rw [ht2]; rfl
  have D1 : Hid (∀ w : World, Calls Tryz.prog 44 #[.int .i64 ((c : Int) / 100)] w fun e w' => e = .returned (.string t1) ∧ Below w.heap.size w w') := by intro w; rw [ht1]; exact C1.out w
  have D2 : Hid (∀ w : World, Calls Tryz.prog 44 #[.int .i64 ((c : Int) % 100)] w fun e w' => e = .returned (.string t2) ∧ Below w.heap.size w w') := by intro w; rw [ht2]; exact C2.out w
  have HB : Hid (t1 ++ t2 = d4 c) := by show _ = _; rw [ht1, ht2]; exact d4_two hc0
  clear ht1 ht2 C1 C2
  have Z1 := Lib.hid z1
  have Z2 := Lib.hid z2
  have y1 : t1.size ≤ 2 := by omega
  have y2 : t2.size ≤ 2 := by omega
  clear z1 z2
  by_cases he : ch = ByteArray.empty
  · subst he
    have HBO : Hid (bodyS ⟨(c : Int), ByteArray.empty⟩ = t1 ++ t2 ++ (⟨#[32]⟩ : ByteArray) ++ (⟨#[45]⟩ : ByteArray)) := by
      show _ = _
      unfold bodyS chS
      rw [HB.out]
      dsimp only
      rw [if_pos (show ByteArray.empty.toList.isEmpty = true from List.isEmpty_iff.2 ((toList_nil_iff_emptyBytes _).2 rfl))]
      rfl
    have m1 : (t1 ++ t2).size ≤ maxLen := by simp only [ByteArray.size_append, Z1.out, Z2.out, maxLen]; omega
    have m2 : (t1 ++ t2 ++ (⟨#[32]⟩ : ByteArray)).size ≤ maxLen := by simp only [ByteArray.size_append, Z1.out, Z2.out, szSp, maxLen]; omega
    have m3 : (t1 ++ t2 ++ (⟨#[32]⟩ : ByteArray) ++ (⟨#[45]⟩ : ByteArray)).size ≤ maxLen := by simp only [ByteArray.size_append, Z1.out, Z2.out, szSp, szDash, maxLen]; omega
    have m4 : (t1 ++ t2 ++ (⟨#[32]⟩ : ByteArray) ++ (⟨#[45]⟩ : ByteArray)).size ≤ 4194304 := by simp only [ByteArray.size_append, Z1.out, Z2.out, szSp, szDash]; omega
    go_enter Tryz.func19, Tryz.ntmps19
    go_wp2_with fail
    refine wp_region_quiet_below (by kernel_rfl) (by kernel_rfl) ?_
    repeat (go_big_quiet_step ((first | (go_at_call 44; first | (with_reducible exact Calls.regrown_of (D1.out _)) | (with_reducible exact Calls.regrown_of (D2.out _))) | (go_at_call 43; exact Calls.regrown_of (l1Seal_any _ _ m4)))))
    refine wpQuiet_nil ?_
    intro _ hw'
    obtain ⟨⟨dq, osq⟩, hw''⟩ := hw'
    subst hw''
    go_wp2
    go_ret
    exact ⟨ret_str (by unfold slipS; rw [HBO.out]), below_grow hW dq osq⟩
  · have hne : ch.toList.isEmpty = false := by
      cases hx : ch.toList.isEmpty
      · rfl
      · exact absurd ((toList_nil_iff_emptyBytes _).1 (List.isEmpty_iff.1 hx)) he
    have HNE := Lib.hid hne
    clear he
    have HBO : Hid (bodyS ⟨(c : Int), ch⟩ = t1 ++ t2 ++ (⟨#[32]⟩ : ByteArray) ++ ch) := by
      show _ = _
      unfold bodyS chS
      rw [HB.out]
      dsimp only
      rw [HNE.out]
      rfl
    have m1 : (t1 ++ t2).size ≤ maxLen := by simp only [ByteArray.size_append, Z1.out, Z2.out, maxLen]; omega
    have m2 : (t1 ++ t2 ++ (⟨#[32]⟩ : ByteArray)).size ≤ maxLen := by simp only [ByteArray.size_append, Z1.out, Z2.out, szSp, maxLen]; omega
    have m3 : (t1 ++ t2 ++ (⟨#[32]⟩ : ByteArray) ++ ch).size ≤ maxLen := by simp only [ByteArray.size_append, Z1.out, Z2.out, szSp, szDash, maxLen]; omega
    have m4 : (t1 ++ t2 ++ (⟨#[32]⟩ : ByteArray) ++ ch).size ≤ 4194304 := by simp only [ByteArray.size_append, Z1.out, Z2.out, szSp, szDash]; omega
    go_enter Tryz.func19, Tryz.ntmps19
    go_wp2_with fail
    refine wp_region_quiet_below (by kernel_rfl) (by kernel_rfl) ?_
    repeat (go_big_quiet_step ((first | (go_at_call 44; first | (with_reducible exact Calls.regrown_of (D1.out _)) | (with_reducible exact Calls.regrown_of (D2.out _))) | (go_at_call 43; exact Calls.regrown_of (l1Seal_any _ _ m4)))))
    refine wpQuiet_nil ?_
    intro _ hw'
    obtain ⟨⟨dq, osq⟩, hw''⟩ := hw'
    subst hw''
    go_wp2
    go_ret
    exact ⟨ret_str (by unfold slipS; rw [HBO.out]), below_grow hW dq osq⟩

theorem d4_not {c : Nat} {b : UInt8} (hc : c < 10000) (h : b.toNat < 48 ∨ 57 < b.toNat) : b ∉ (d4 c).data.toList := by
  have key : ∀ d, d < 10 → b ≠ UInt8.ofNat (48 + d) := fun d hd e => by
    have : (UInt8.ofNat (48 + d)).toNat = 48 + d := by simp; omega
    rw [e, this] at h
    omega
  unfold d4
  simp only [List.mem_cons, List.not_mem_nil, or_false, not_or]
  exact ⟨key _ (by omega), key _ (by omega), key _ (by omega), key _ (by omega)⟩
theorem ch_not {x : BA} {b : UInt8} (h : bOK x = true) (hb : b.toNat < 97) (hd : b ≠ 45) : b ∉ (chS x).data.toList := by
  unfold bOK at h
  rw [Bool.and_eq_true, Bool.or_eq_true] at h
  unfold chS
  split
  · simp [hd]
  · rename_i hn
    rcases h.2 with h | h
    · exact absurd h hn
    · unfold wordB at h
      rw [Bool.and_eq_true] at h
      intro hm
      have := List.all_eq_true.1 h.1 b hm
      simp [wdByte] at this
      omega
theorem body_not {x : BA} (h : bOK x = true) : (35 : UInt8) ∉ (bodyS x).data.toList := by
  obtain ⟨h0, h1, h2⟩ := bOK_sz h
  have e : (bodyS x).data.toList = (d4 x.code.toNat).data.toList ++ [32] ++ (chS x).data.toList := by unfold bodyS; simp
  rw [e]
  simp only [List.mem_append, not_or]
  exact ⟨⟨d4_not (by omega) (by decide), by decide⟩, ch_not h (by decide) (by decide)⟩
theorem hash_no {s : ByteArray} (h : (35 : UInt8) ∉ s.data.toList) : hashB s = false := by
  unfold hashB
  rw [← Lib.index_one]
  rcases Lib.index_spec s.data.toList [35] with ⟨e, _⟩ | ⟨i, e, _, ho, _⟩
  · rw [e]; rfl
  · exact absurd (List.mem_of_getElem? (occ_one.1 ho)) h
theorem body_app {x : BA} (h : bOK x = true) : appG (bodyS x) = true := by
  obtain ⟨h0, h1, h2⟩ := bOK_sz h
  have hz := bodyS_size h2
  have hn := seal_num (bodyS x)
  have hs := sealS_size (bodyS x)
  unfold appG
  rw [hash_no (body_not h), decide_eq_false (by omega), decide_eq_false (by omega)]
  rfl

set_option maxRecDepth 100000 in
set_option maxHeartbeats 1000000 in
theorem slipText_any (x : BA) (w : World) (h : bOK x = true) (hT : Lib.TabIs Tryz.prog w "internal/strconv.uint64pow10" .u64 Lib.pow10Tab) : Calls Tryz.prog 17 #[.agg #[.int .i64 x.code, .string x.ch]] w fun e w' => e = .returned (.string (slipS x)) ∧ Below w.heap.size w w' := by
  obtain ⟨h0, h1, h2⟩ := bOK_sz h
  have HOK := Lib.hid h
  clear h
  obtain ⟨code, ch⟩ := x
  dsimp only at h0 h1 h2
  obtain ⟨c, rfl⟩ := Int.eq_ofNat_of_zero_le (show 0 ≤ code by omega)
  have hc0 : c < 10000 := by omega
  have hW : Below w.heap.size w (w.alloc (.cells #[.int .i64 (c : Int), .string ch] 25)) := below_alloc _
  have HT := Lib.hid (pow10_below hT hW)
  clear hT
  have c0 := cell_regrown (cell_of_row (w.alloc (.cells #[.int .i64 (c : Int), .string ch] 25)) w.heap.size 0 _ _ _ (heap_new rfl))
  have c1 := cell_regrown (cell_of_row (w.alloc (.cells #[.int .i64 (c : Int), .string ch] 25)) w.heap.size 1 _ _ _ (heap_new rfl))
  have hn4 := numS_len hc0
  have hn1 := numS_pos c
  obtain ⟨n, hn⟩ : ∃ n, n = numS c := ⟨_, rfl⟩
  have CI : Hid (∀ dq osq, Calls Tryz.prog 38 #[.int .i64 (c : Int)] (grow (redrawn (w.alloc (.cells #[.int .i64 (c : Int), .string ch] 25)) dq) osq) fun e w' => e = .returned (.string n) ∧ Below (grow (redrawn (w.alloc (.cells #[.int .i64 (c : Int), .string ch] 25)) dq) osq).heap.size (grow (redrawn (w.alloc (.cells #[.int .i64 (c : Int), .string ch] 25)) dq) osq) w') := fun dq osq => by
    rw [hn]
    exact itoa_tab (c : Int) _ (pow10_below HT.out (below_regrown _ _ _)) (by omega) (by omega)
  rw [← hn] at hn4 hn1
  obtain ⟨q, hq⟩ : ∃ q, q = (⟨(Lib.repeatL (⟨#[48]⟩ : ByteArray).data.toList (4 - n.size)).toArray⟩ : ByteArray) := ⟨_, rfl⟩
  have CQ : Hid (∀ w : World, Calls Tryz.prog 40 #[.string ⟨#[48]⟩, .int .i64 ((4 - n.size : Nat) : Int)] w fun e w' => e = .returned (.string q) ∧ Below w.heap.size w w') := fun w => by
    rw [hq]
    exact Tryz.strings_Repeat ⟨#[48]⟩ (4 - n.size) w (by omega) (by show 1 * _ ≤ _; omega)
  have HB : Hid (q ++ n = d4 c) := by show _ = _; rw [hq, hn]; exact d4_pad hc0
  have hqz : q.size ≤ 4 := by
    have h1 := congrArg ByteArray.size HB.out
    rw [ByteArray.size_append, d4_size] at h1
    omega
  clear hq
  have HN := Lib.hid hn
  clear hn
  have hsub : IntKind.i64.wrap (4 - (n.size : Int)) = ((4 - n.size : Nat) : Int) := by rw [IntWalk.i64_in _ (by omega)]; omega
  by_cases he : ch = ByteArray.empty
  · subst he
    have HBO : Hid (bodyS ⟨(c : Int), ByteArray.empty⟩ = q ++ n ++ (⟨#[32]⟩ : ByteArray) ++ (⟨#[45]⟩ : ByteArray)) := by
      show _ = _
      unfold bodyS chS
      rw [HB.out]
      dsimp only
      rw [if_pos (show ByteArray.empty.toList.isEmpty = true from List.isEmpty_iff.2 ((toList_nil_iff_emptyBytes _).2 rfl))]
      rfl
    have m1 : (q ++ n).size ≤ maxLen := by simp only [ByteArray.size_append, maxLen]; omega
    have m2 : (q ++ n ++ (⟨#[32]⟩ : ByteArray)).size ≤ maxLen := by simp only [ByteArray.size_append, szSp, maxLen]; omega
    have m3 : (q ++ n ++ (⟨#[32]⟩ : ByteArray) ++ (⟨#[45]⟩ : ByteArray)).size ≤ maxLen := by simp only [ByteArray.size_append, szSp, szDash, maxLen]; omega
    have m4 : (q ++ n ++ (⟨#[32]⟩ : ByteArray) ++ (⟨#[45]⟩ : ByteArray)).size ≤ 4194304 := by simp only [ByteArray.size_append, szSp, szDash]; omega
    have HG : Hid (appG (q ++ n ++ (⟨#[32]⟩ : ByteArray) ++ (⟨#[45]⟩ : ByteArray)) = true) := by
      show _ = _
      rw [← HBO.out]
      exact body_app HOK.out
    go_enter Tryz.func17, Tryz.ntmps17
    go_wp2_with fail
    refine wp_region_quiet_below (by kernel_rfl) (by kernel_rfl) ?_
    repeat (go_big_quiet_step ((go_at_call 38; exact Calls.regrown_of (CI.out _ _))))
    refine wpQuiet_nil ?_
    intro _ hw'
    obtain ⟨⟨dq, osq⟩, hw''⟩ := hw'
    subst hw''
    go_wp2_with fail
    refine (CQ.out _).mono ?_
    rintro e w2 ⟨rfl, b2⟩
    have HT2 := Lib.hid (pow10_below HT.out (below_trans (below_regrown _ dq osq) b2))
    go_wp2_with fail
    refine (AppendChecksum_any _ _ m4 HT2.out).mono ?_
    rintro e w3 ⟨rfl, b3⟩
    go_wp2
    go_ret
    exact ⟨ret_str (by rw [appS, HG.out, ← HBO.out]; rfl), below_trans (below_trans (below_grow hW dq osq) b2) b3⟩
  · have hne : ch.toList.isEmpty = false := by
      cases hx : ch.toList.isEmpty
      · rfl
      · exact absurd ((toList_nil_iff_emptyBytes _).1 (List.isEmpty_iff.1 hx)) he
    have HNE := Lib.hid hne
    clear he
    have HBO : Hid (bodyS ⟨(c : Int), ch⟩ = q ++ n ++ (⟨#[32]⟩ : ByteArray) ++ ch) := by
      show _ = _
      unfold bodyS chS
      rw [HB.out]
      dsimp only
      rw [HNE.out]
      rfl
    have m1 : (q ++ n).size ≤ maxLen := by simp only [ByteArray.size_append, maxLen]; omega
    have m2 : (q ++ n ++ (⟨#[32]⟩ : ByteArray)).size ≤ maxLen := by simp only [ByteArray.size_append, szSp, maxLen]; omega
    have m3 : (q ++ n ++ (⟨#[32]⟩ : ByteArray) ++ ch).size ≤ maxLen := by simp only [ByteArray.size_append, szSp, szDash, maxLen]; omega
    have m4 : (q ++ n ++ (⟨#[32]⟩ : ByteArray) ++ ch).size ≤ 4194304 := by simp only [ByteArray.size_append, szSp, szDash]; omega
    have HG : Hid (appG (q ++ n ++ (⟨#[32]⟩ : ByteArray) ++ ch) = true) := by
      show _ = _
      rw [← HBO.out]
      exact body_app HOK.out
    go_enter Tryz.func17, Tryz.ntmps17
    go_wp2_with fail
    refine wp_region_quiet_below (by kernel_rfl) (by kernel_rfl) ?_
    repeat (go_big_quiet_step ((go_at_call 38; exact Calls.regrown_of (CI.out _ _))))
    refine wpQuiet_nil ?_
    intro _ hw'
    obtain ⟨⟨dq, osq⟩, hw''⟩ := hw'
    subst hw''
    go_wp2_with fail
    refine (CQ.out _).mono ?_
    rintro e w2 ⟨rfl, b2⟩
    have HT2 := Lib.hid (pow10_below HT.out (below_trans (below_regrown _ dq osq) b2))
    go_wp2_with fail
    refine (AppendChecksum_any _ _ m4 HT2.out).mono ?_
    rintro e w3 ⟨rfl, b3⟩
    go_wp2
    go_ret
    exact ⟨ret_str (by rw [appS, HG.out, ← HBO.out]; rfl), below_trans (below_trans (below_grow hW dq osq) b2) b3⟩

def slipL (x : BA) : ByteArray := if bOK x then slipS x else ByteArray.empty

set_option maxRecDepth 100000 in
theorem specSlipText_any (x : BA) (w : World) (h0 : BaSz x) : Calls Tryz.prog 7 #[.agg #[.int .i64 x.code, .string x.ch]] w fun e w' => e = .returned (.tuple #[.string (slipL x), .bool (bOK x)]) ∧ Below w.heap.size w w' := by
  go_enter Tryz.func7, Tryz.ntmps7
  go_wp2_with fail
  refine (l20One_any x _ h0).mono ?_
  rintro e w1 ⟨rfl, b1⟩
  have c0 := cell_below b1 (cell_of_row _ w.heap.size 0 _ _ _ (heap_new rfl))
  have c1 := cell_below b1 (cell_of_row _ w.heap.size 1 _ _ _ (heap_new rfl))
  replace b1 := below_trans (below_alloc _) b1
  cases h : bOK x
  · have E := Lib.hid (show slipL x = ByteArray.empty by simp [slipL, h])
    have H := Lib.hid h
    clear h
    go_wp2
    go_ret2
    exact ⟨by rw [E.out, H.out]; rfl, b1⟩
  · have E := Lib.hid (show slipL x = slipS x by simp [slipL, h])
    have H := Lib.hid h
    clear h
    go_wp2_with fail
    refine (l20Slip_any x _ H.out).mono ?_
    rintro e w2 ⟨rfl, b2⟩
    go_wp2
    go_ret2
    exact ⟨by rw [E.out, H.out]; rfl, below_trans b1 b2⟩

set_option maxRecDepth 100000 in
theorem implSlipText_any (x : BA) (w : World) (h0 : BaSz x) (hT : Lib.TabIs Tryz.prog w "internal/strconv.uint64pow10" .u64 Lib.pow10Tab) : Calls Tryz.prog 6 #[.agg #[.int .i64 x.code, .string x.ch]] w fun e w' => e = .returned (.tuple #[.string (slipL x), .bool (bOK x)]) ∧ Below w.heap.size w w' := by
  go_enter Tryz.func6, Tryz.ntmps6
  go_wp2_with fail
  refine (isBallot_any x _ h0).mono ?_
  rintro e w1 ⟨rfl, b1⟩
  have c0 := cell_below b1 (cell_of_row _ w.heap.size 0 _ _ _ (heap_new rfl))
  have c1 := cell_below b1 (cell_of_row _ w.heap.size 1 _ _ _ (heap_new rfl))
  replace b1 := below_trans (below_alloc _) b1
  cases h : bOK x
  · have E := Lib.hid (show slipL x = ByteArray.empty by simp [slipL, h])
    have H := Lib.hid h
    clear h
    go_wp2
    go_ret2
    exact ⟨by rw [E.out, H.out]; rfl, b1⟩
  · have E := Lib.hid (show slipL x = slipS x by simp [slipL, h])
    have H := Lib.hid h
    clear h
    go_wp2_with fail
    refine (slipText_any x _ H.out (pow10_below hT b1)).mono ?_
    rintro e w2 ⟨rfl, b2⟩
    go_wp2
    go_ret2
    exact ⟨by rw [E.out, H.out]; rfl, below_trans b1 b2⟩

end Go.Proofs.YtcockjjilcapaaaGreatDoor
