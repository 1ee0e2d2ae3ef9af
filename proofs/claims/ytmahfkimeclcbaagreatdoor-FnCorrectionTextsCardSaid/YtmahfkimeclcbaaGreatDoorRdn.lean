/-
  YtmahfkimeclcbaaGreatDoorRdn: texts cut and numbers read (l1Split, l1Read, ParseInt), by contracts. (Printed by wip/gen/rdn.py.)
-/
import Derived.Test.YtmahfkimeclcbaaGreatDoorCut
import Derived.Test.YtmahfkimeclcbaaGreatDoorIn
import Derived.Test.YtmahfkimeclcbaaGreatDoorSt
import Derived.Test.YtmahfkimeclcbaaGreatDoorTab
import Derived.IntWalk
import Derived.Lib.AtoiBound
import Derived.Lib.AtoiErrMem
namespace Go.Proofs.YtmahfkimeclcbaaGreatDoor
open Go Go.RowKit Go.Sort
set_option linter.unusedVariables false

/-- Where s is the numeral of m, the number and the yes that reading it gives. -/
def LR (s : ByteArray) (n : Int) (ok : Bool) : Prop := ∀ m : Nat, m ≤ 999999 → s = numS m → n = (m : Int) ∧ ok = true
theorem LR_len {s : ByteArray} {n : Int} {ok : Bool} (h : ¬ (1 ≤ s.size ∧ s.size ≤ 6)) : LR s n ok := fun m hm e => by
  subst e
  exact absurd ⟨numS_pos m, numS_six hm⟩ h
theorem LR_dig {s : ByteArray} {n : Int} {ok : Bool} {k : Nat} (hk : k < s.size) (h : (s[k].toNat : Int) < 48 ∨ 57 < (s[k].toNat : Int)) : LR s n ok := fun m hm e => by
  subst e
  exact absurd (List.mem_of_getElem? (byte_get hk)) (numS_not (by omega))
theorem LR_ok {s : ByteArray} {a : Nat} (h : Lib.decFrom 0 s.data.toList = some a) : LR s (a : Int) true := fun m hm e => by
  subst e
  rw [numS_data, dec_num] at h
  exact ⟨by rw [Option.some.inj h], rfl⟩
theorem LR_no {s : ByteArray} {a : Nat} {n : Int} {ok : Bool} (h : Lib.decFrom 0 s.data.toList = some a) (hne : numS a ≠ s) : LR s n ok := fun m hm e => by
  subst e
  rw [numS_data, dec_num] at h
  exact absurd (by rw [Option.some.inj h]) hne
theorem LR_at_none {s : ByteArray} {n : Int} {ok : Bool} (h : Lib.atoi s.data.toList = none) : LR s n ok := fun m hm e => by
  subst e
  rw [atoi_num] at h
  cases h
theorem LR_at_range {s : ByteArray} {v n : Int} {ok : Bool} (h : Lib.atoi s.data.toList = some v) (hr : inB v (-999999) 999999 = false) : LR s n ok := fun m hm e => by
  subst e
  rw [atoi_num] at h
  have := Option.some.inj h
  subst this
  rw [inB_t (by omega) (by omega)] at hr
  cases hr
theorem LR_at {s : ByteArray} {v : Int} (h : Lib.atoi s.data.toList = some v) : LR s v true := fun m hm e => by
  subst e
  rw [atoi_num] at h
  exact ⟨(Option.some.inj h).symm, rfl⟩
theorem LR_at_ne {s : ByteArray} {v n : Int} {ok : Bool} (h : Lib.atoi s.data.toList = some v) (hne : (⟨(Lib.itoa v).toArray⟩ : ByteArray) ≠ s) : LR s n ok := fun m hm e => by
  subst e
  rw [atoi_num] at h
  have := Option.some.inj h
  subst this
  exact absurd (by rw [Lib.itoa_nonneg]; rfl) hne
theorem bytes_eq_t {a b : ByteArray} (h : a = b) : (a.toList == b.toList) = true := by rw [h]; simp
theorem toList_inj {a b : ByteArray} (h : a.toList = b.toList) : a = b := by
  have h2 := congrArg List.toArray h
  rw [ByteArray.toList_eq, ByteArray.toList_eq] at h
  cases a; cases b
  simp only [Array.toList_inj] at h
  rw [h]
theorem bytes_eq_f {a b : ByteArray} (h : a ≠ b) : (a.toList == b.toList) = false := by
  rw [beq_eq_false_iff_ne]
  exact fun e => h (toList_inj e)

set_option maxRecDepth 100000 in
set_option maxHeartbeats 1000000 in
theorem l1Split_any (s : ByteArray) (b : UInt8) (w : World) (hs : s.size ≤ 4194304) :
    Calls Tryz.prog 30 #[.string s, .int .u8 (b.toNat : Int)] w fun e w' => (∃ B q d, e = .returned (.slice B q d) ∧ Own stV 1 w' w.heap.size 9 B q d (cutS s b)) ∧ Below w.heap.size w w' := by
  obtain ⟨i0, hi, hz0, hz1, hz2⟩ := info_parts Tryz.infoSt
  have ho0 := Own.empty stV 1 w 9
  go_enter Tryz.func30, Tryz.ntmps30
  go_wp2
  go_loopw [5, 6, 7] (fun v fr i wr => ∃ k f : Nat, k ≤ s.size ∧ f ≤ k ∧ i = .int .i64 k ∧ fr = .int .i64 f ∧ ∃ B q d D, v = .slice B q d ∧ q ≤ k ∧ Own stV 1 wr w.heap.size 9 B q d D ∧ cutS s b = D ++ cutF s b f k ∧ Below w.heap.size w wr) (fun _ _ i _ => s.size - (intOf i).toNat)
  case atStart => exact ⟨0, 0, by omega, by omega, rfl, rfl, _, 0, 0, [], rfl, Nat.le_refl _, ho0, (cutF_0 s b).symm, below_alloc _⟩
  case round =>
    clear ho0
    obtain ⟨k, f, hk, hf, rfl, rfl, B, q, d, D, rfl, hq, ho, hcut, hbw⟩ := hrel
    have HC := Lib.hid hcut
    clear hcut
    by_cases hlt : k < s.size
    · by_cases h1 : s[k] = b
      · have E : Hid (cutS s b = (D ++ [s.extract f k]) ++ cutF s b (k + 1) (k + 1)) := by show _ = _; rw [HC.out, cutF_hit hf hlt h1]; simp
        have ht : ((s[k].toNat : Int) == (b.toNat : Int)) = true := by rw [h1]; simp
        clear h1
        go_wp2_with (at_builtin; refine wpList_push rfl _ _ _ rfl w.heap.size 9 i0 (.string ByteArray.empty) 1 16 Tryz.underlying35 hi hz0 hz1 hz2 rfl (by omega) stV stV_len one_st B q d _ rfl ho (s.extract f k) _ rfl _ rfl (by first | rfl | simp) (by simp only [maxLen]; omega) (by omega) hbw.size ?_; intro B3 d3 w3 ho3 hg3)
        go_roundw
        case rel => exact ⟨k + 1, k + 1, by omega, by omega, by go_num, by go_num, B3, q + 1, d3, _, rfl, by omega, ho3, E.out, below_push hbw ho hg3 (Nat.le_refl _)⟩
        case measure => simp [intOf]; omega
      · have E : Hid (cutS s b = D ++ cutF s b f (k + 1)) := by show _ = _; rw [HC.out, cutF_miss hf hlt h1]
        have ht : ((s[k].toNat : Int) == (b.toNat : Int)) = false := by
          rw [beq_eq_false_iff_ne]
          intro e
          exact h1 (UInt8.toNat_inj.1 (by omega))
        clear h1
        go_wp2
        go_roundw
        case rel => exact ⟨k + 1, f, by omega, by omega, by go_num, rfl, B, q, d, D, rfl, by omega, ho, E.out, hbw⟩
        case measure => simp [intOf]; omega
    · obtain rfl : k = s.size := by omega
      have E : Hid (cutS s b = D ++ [s.extract f s.size]) := by show _ = _; rw [HC.out, cutF_end hf]
      go_wp2_with (at_builtin; refine wpList_push rfl _ _ _ rfl w.heap.size 9 i0 (.string ByteArray.empty) 1 16 Tryz.underlying35 hi hz0 hz1 hz2 rfl (by omega) stV stV_len one_st B q d _ rfl ho (s.extract f s.size) _ rfl _ rfl (by first | rfl | simp) (by simp only [maxLen]; omega) (by omega) hbw.size ?_; intro B3 d3 w3 ho3 hg3)
      go_ret
      exact ⟨⟨_, _, _, rfl, by rw [E.out]; exact ho3⟩, below_push hbw ho hg3 (Nat.le_refl _)⟩

def numZ (x : Int) : ByteArray := if x < 0 then (⟨#[45]⟩ : ByteArray) ++ numS (-x).toNat else numS x.toNat
theorem l1NumZ_any (x : Int) (w : World) (h0 : -1000000000 < x) (h1 : x < 1000000000) :
    Calls Tryz.prog 53 #[.int .i64 x] w fun e w' => e = .returned (.string (numZ x)) ∧ Below w.heap.size w w' := by
  by_cases hx : x < 0
  · have E : Hid (numZ x = (⟨#[45]⟩ : ByteArray) ++ numS (-x).toNat) := by show _ = _; unfold numZ; rw [if_pos hx]
    obtain ⟨n, hn⟩ := Int.eq_ofNat_of_zero_le (show 0 ≤ -x by omega)
    have hN : Calls Tryz.prog 53 #[.int .i64 (-x)] w fun e w' => e = .returned (.string (numS (-x).toNat)) ∧ Below w.heap.size w w' := by
      rw [hn]; exact l1Num_any n w (by omega)
    have hz := numS_size (n := (-x).toNat) (by omega)
    have hm : ((⟨#[45]⟩ : ByteArray) ++ numS (-x).toNat).size ≤ maxLen := by rw [ByteArray.size_append]; show 1 + _ ≤ 9223372036854775807; omega
    have HN := Lib.hid hN
    clear hN hn
    go_enter Tryz.func53, Tryz.ntmps53
    go_wp2_with fail
    refine HN.out.mono ?_
    rintro e w1 ⟨rfl, b1⟩
    go_wp2
    go_ret
    exact ⟨ret_str E.out.symm, b1⟩
  · obtain ⟨n, rfl⟩ := Int.eq_ofNat_of_zero_le (show 0 ≤ x by omega)
    have E : numZ (n : Int) = numS n := by unfold numZ; rw [if_neg hx]; rfl
    rw [E]
    exact l1Num_any n w (by omega)

theorem dec_bound {l : List UInt8} {k a : Nat} (h : Lib.decFrom 0 (l.take k) = some a) (hk : k ≤ 6) : a < 1000000 := by
  have h1 := Lib.decFrom_lt _ _ _ h
  have h2 : (l.take k).length ≤ 6 := by rw [List.length_take]; omega
  have h3 : 10 ^ (l.take k).length ≤ 10 ^ 6 := Nat.pow_le_pow_right (by omega) h2
  omega
theorem dec_step {t : ByteArray} {k a : Nat} (h : Lib.decFrom 0 (t.data.toList.take k) = some a) (hk : k < t.size) (h1 : ¬ (t[k].toNat : Int) < 48) (h2 : ¬ 57 < (t[k].toNat : Int)) :
    Lib.decFrom 0 (t.data.toList.take (k + 1)) = some (a * 10 + (t[k].toNat - 48)) := by
  refine Lib.decFrom_take _ k 0 a t[k] _ h (byte_get hk) ?_
  unfold Lib.digitVal
  rw [if_pos ⟨by omega, by omega⟩]

/-- What l1Read reads: its sign, its digits, its number. -/
def negB (s : ByteArray) : Bool := if h : 1 < s.size then s[0] == 45 else false
def rdT (s : ByteArray) : ByteArray := if negB s then s.extract 1 s.size else s
def sgZ (s : ByteArray) (a : Nat) : Int := if negB s then -(a : Int) else a
def rdP (s : ByteArray) : Int × Bool :=
  if 1 ≤ (rdT s).size ∧ (rdT s).size ≤ 6 then
    match Lib.decFrom 0 (rdT s).data.toList with
    | none => (0, false)
    | some a => if numZ (sgZ s a) = s then (sgZ s a, true) else (0, false)
  else (0, false)
theorem rdP_len {s : ByteArray} (h : ¬ (1 ≤ (rdT s).size ∧ (rdT s).size ≤ 6)) : rdP s = (0, false) := by unfold rdP; rw [if_neg h]
theorem rdP_bad {s : ByteArray} {k : Nat} (hk : k < (rdT s).size) (h : ((rdT s)[k].toNat : Int) < 48 ∨ 57 < ((rdT s)[k].toNat : Int)) : rdP s = (0, false) := by
  have hn : Lib.decFrom 0 (rdT s).data.toList = none := by
    cases hd : Lib.decFrom 0 (rdT s).data.toList with
    | none => rfl
    | some a =>
      obtain ⟨d, e⟩ := Lib.digit_of_decFrom _ _ _ hd k _ (byte_get hk)
      have := Lib.digitVal_eq e
      omega
  unfold rdP
  rw [hn]
  split <;> rfl
theorem rdP_yes {s : ByteArray} {a : Nat} (h1 : 1 ≤ (rdT s).size) (h6 : (rdT s).size ≤ 6) (hd : Lib.decFrom 0 (rdT s).data.toList = some a) (e : numZ (sgZ s a) = s) : rdP s = (sgZ s a, true) := by
  unfold rdP
  rw [if_pos ⟨h1, h6⟩, hd]
  exact if_pos e
theorem rdP_no {s : ByteArray} {a : Nat} (hd : Lib.decFrom 0 (rdT s).data.toList = some a) (e : numZ (sgZ s a) ≠ s) : rdP s = (0, false) := by
  unfold rdP
  rw [hd]
  split
  · exact if_neg e
  · rfl
theorem rdP_LR (s : ByteArray) : LR s (rdP s).1 (rdP s).2 := fun m hm e => by
  subst e
  have hn : negB (numS m) = false := by
    unfold negB
    split
    · rename_i h
      rw [beq_eq_false_iff_ne]
      intro e
      have := num_digits (m := m) 45 (by rw [← numS_data, ← e]; exact List.mem_of_getElem? (byte_get (by omega)))
      simp at this
    · rfl
  have hT : rdT (numS m) = numS m := by unfold rdT; rw [hn]; rfl
  have hs : sgZ (numS m) m = (m : Int) := by unfold sgZ; rw [hn]; rfl
  have hz : numZ (sgZ (numS m) m) = numS m := by rw [hs]; unfold numZ; rw [if_neg (by omega)]; rfl
  rw [rdP_yes (a := m) (by rw [hT]; exact numS_pos m) (by rw [hT]; exact numS_six hm) (by rw [hT, numS_data]; exact dec_num m) hz, hs]
  exact ⟨rfl, rfl⟩

set_option maxRecDepth 100000 in
set_option maxHeartbeats 2000000 in
theorem l1Read_pos (s : ByteArray) (w : World) (hs : s.size ≤ 4194304) (hp : ∀ h : 0 < s.size, 1 < s.size → (s[0].toNat : Int) ≠ 45)
    (RLEN : ¬ (1 ≤ s.size ∧ s.size ≤ 6) → rdP s = (0, false)) (RBAD : ∀ k, (h : k < s.size) → (s[k].toNat : Int) < 48 ∨ 57 < (s[k].toNat : Int) → rdP s = (0, false))
    (RYES : ∀ a : Nat, 1 ≤ s.size → s.size ≤ 6 → Lib.decFrom 0 s.data.toList = some a → numZ ((a : Int)) = s → rdP s = ((a : Int), true)) (RNO : ∀ a : Nat, Lib.decFrom 0 s.data.toList = some a → numZ ((a : Int)) ≠ s → rdP s = (0, false)) :
    Calls Tryz.prog 31 #[.string s] w fun e w' => e = .returned (.tuple #[.int .i64 (rdP s).1, .bool (rdP s).2]) ∧ Below w.heap.size w w' := by
  by_cases h1 : 1 < s.size
  · have hs0 : 0 < s.size := by omega
    have hg : ((s[0].toNat : Int) == 45) = false := by rw [beq_eq_false_iff_ne]; exact hp hs0 h1
    by_cases h7 : 6 < s.size
    · have hb : inB (s.size : Int) 1 6 = false := inB_r (by omega)
      have HB := Lib.hid hb
      have E := Lib.hid (RLEN (by omega))
      clear hb hp RLEN RBAD RYES RNO
      go_enter Tryz.func31, Tryz.ntmps31
      go_wp2_with fail
      refine (l1In_any _ _ _ _).mono ?_
      rintro e w1 ⟨rfl, rfl⟩
      rw [HB.out]
      go_wp2
      go_ret2
      exact ⟨by rw [E.out]; rfl, Below.refl _ _⟩
    · have hs6 : s.size ≤ 6 := by omega
      have hb : inB (s.size : Int) 1 6 = true := inB_t (by omega) (by omega)
      have HB := Lib.hid hb
      clear hb hp h7 RLEN
      go_enter Tryz.func31, Tryz.ntmps31
      go_wp2_with fail
      refine (l1In_any _ _ _ _).mono ?_
      rintro e w1 ⟨rfl, rfl⟩
      rw [HB.out]
      go_wp2
      go_loop [5, 6] (fun v i => ∃ k a : Nat, k ≤ s.size ∧ i = .int .i64 k ∧ v = .int .i64 a ∧ Lib.decFrom 0 (s.data.toList.take k) = some a) (fun _ i => s.size - (intOf i).toNat)
      case atStart => exact ⟨0, 0, Nat.zero_le _, rfl, rfl, rfl⟩
      case round =>
        obtain ⟨k, a, hk, rfl, rfl, hd⟩ := hrel
        have HD := Lib.hid hd
        have ha := dec_bound hd (by omega)
        clear hd
        by_cases hlt : k < s.size
        · by_cases h1 : (s[k].toNat : Int) < 48
          · have E := Lib.hid (RBAD k hlt (.inl h1))
            go_wp2
            go_ret2
            exact ⟨by rw [E.out]; rfl, Below.refl _ _⟩
          · by_cases h2 : 57 < (s[k].toNat : Int)
            · have E := Lib.hid (RBAD k hlt (.inr h2))
              go_wp2
              go_ret2
              exact ⟨by rw [E.out]; rfl, Below.refl _ _⟩
            · have E := Lib.hid (dec_step HD.out hlt h1 h2)
              go_wp2
              go_round
              case rel => exact ⟨k + 1, a * 10 + (s[k].toNat - 48), by omega, by go_num, by first | rfl | (congr 1; omega), E.out⟩
              case measure => simp [intOf]; omega
        · obtain rfl : k = s.size := by omega
          have e0 : s.data.toList.take s.size = s.data.toList := List.take_of_length_le (Nat.le_refl _)
          have HD2 : Hid (Lib.decFrom 0 s.data.toList = some a) := by show _ = _; rw [← e0]; exact HD.out
          have hz1 : -1000000000 < (a : Int) := by omega
          have hz2 : (a : Int) < 1000000000 := by omega
          clear e0
          go_wp2_with fail
          refine (l1NumZ_any _ _ hz1 hz2).mono ?_
          rintro e w1 ⟨rfl, b1⟩
          by_cases he : numZ ((a : Int)) = s
          · have ht := bytes_eq_t he
            have E := Lib.hid (RYES a (by omega) (by omega) HD2.out he)
            clear he
            go_wp2
            go_ret2
            exact ⟨by rw [E.out]; rfl, b1⟩
          · have ht := bytes_eq_f he
            have E := Lib.hid (RNO a HD2.out he)
            clear he
            go_wp2
            go_ret2
            exact ⟨by rw [E.out]; rfl, b1⟩
  by_cases h0 : s.size = 0
  · have hb : inB (s.size : Int) 1 6 = false := inB_l (by omega)
    have HB := Lib.hid hb
    have E := Lib.hid (RLEN (by omega))
    clear hb hp h0 RLEN RBAD RYES RNO
    go_enter Tryz.func31, Tryz.ntmps31
    go_wp2_with fail
    refine (l1In_any _ _ _ _).mono ?_
    rintro e w1 ⟨rfl, rfl⟩
    rw [HB.out]
    go_wp2
    go_ret2
    exact ⟨by rw [E.out]; rfl, Below.refl _ _⟩
  · have hs6 : s.size ≤ 6 := by omega
    have hs1 : 1 ≤ s.size := by omega
    have hb : inB (s.size : Int) 1 6 = true := inB_t (by omega) (by omega)
    have HB := Lib.hid hb
    clear hb hp h0 RLEN
    go_enter Tryz.func31, Tryz.ntmps31
    go_wp2_with fail
    refine (l1In_any _ _ _ _).mono ?_
    rintro e w1 ⟨rfl, rfl⟩
    rw [HB.out]
    go_wp2
    go_loop [5, 6] (fun v i => ∃ k a : Nat, k ≤ s.size ∧ i = .int .i64 k ∧ v = .int .i64 a ∧ Lib.decFrom 0 (s.data.toList.take k) = some a) (fun _ i => s.size - (intOf i).toNat)
    case atStart => exact ⟨0, 0, Nat.zero_le _, rfl, rfl, rfl⟩
    case round =>
      obtain ⟨k, a, hk, rfl, rfl, hd⟩ := hrel
      have HD := Lib.hid hd
      have ha := dec_bound hd (by omega)
      clear hd
      by_cases hlt : k < s.size
      · by_cases h1 : (s[k].toNat : Int) < 48
        · have E := Lib.hid (RBAD k hlt (.inl h1))
          go_wp2
          go_ret2
          exact ⟨by rw [E.out]; rfl, Below.refl _ _⟩
        · by_cases h2 : 57 < (s[k].toNat : Int)
          · have E := Lib.hid (RBAD k hlt (.inr h2))
            go_wp2
            go_ret2
            exact ⟨by rw [E.out]; rfl, Below.refl _ _⟩
          · have E := Lib.hid (dec_step HD.out hlt h1 h2)
            go_wp2
            go_round
            case rel => exact ⟨k + 1, a * 10 + (s[k].toNat - 48), by omega, by go_num, by first | rfl | (congr 1; omega), E.out⟩
            case measure => simp [intOf]; omega
      · obtain rfl : k = s.size := by omega
        have e0 : s.data.toList.take s.size = s.data.toList := List.take_of_length_le (Nat.le_refl _)
        have HD2 : Hid (Lib.decFrom 0 s.data.toList = some a) := by show _ = _; rw [← e0]; exact HD.out
        have hz1 : -1000000000 < (a : Int) := by omega
        have hz2 : (a : Int) < 1000000000 := by omega
        clear e0
        go_wp2_with fail
        refine (l1NumZ_any _ _ hz1 hz2).mono ?_
        rintro e w1 ⟨rfl, b1⟩
        by_cases he : numZ ((a : Int)) = s
        · have ht := bytes_eq_t he
          have E := Lib.hid (RYES a (by omega) (by omega) HD2.out he)
          clear he
          go_wp2
          go_ret2
          exact ⟨by rw [E.out]; rfl, b1⟩
        · have ht := bytes_eq_f he
          have E := Lib.hid (RNO a HD2.out he)
          clear he
          go_wp2
          go_ret2
          exact ⟨by rw [E.out]; rfl, b1⟩

set_option maxRecDepth 100000 in
set_option maxHeartbeats 2000000 in
theorem l1Read_neg (s t : ByteArray) (w : World) (hs : s.size ≤ 4194304) (h0 : 1 < s.size) (hp : (s[0].toNat : Int) = 45) (ht0 : t = s.extract 1 s.size)
    (RLEN : ¬ (1 ≤ t.size ∧ t.size ≤ 6) → rdP s = (0, false)) (RBAD : ∀ k, (h : k < t.size) → (t[k].toNat : Int) < 48 ∨ 57 < (t[k].toNat : Int) → rdP s = (0, false))
    (RYES : ∀ a : Nat, 1 ≤ t.size → t.size ≤ 6 → Lib.decFrom 0 t.data.toList = some a → numZ (-(a : Int)) = s → rdP s = (-(a : Int), true)) (RNO : ∀ a : Nat, Lib.decFrom 0 t.data.toList = some a → numZ (-(a : Int)) ≠ s → rdP s = (0, false)) :
    Calls Tryz.prog 31 #[.string s] w fun e w' => e = .returned (.tuple #[.int .i64 (rdP s).1, .bool (rdP s).2]) ∧ Below w.heap.size w w' := by
  have hg : ((s[0].toNat : Int) == 45) = true := by rw [hp]; rfl
  have hz : t.size = s.size - 1 := by rw [ht0, ByteArray.size_extract]; omega
  have HT := Lib.hid ht0
  have hs0 : 0 < s.size := by omega
  clear hp ht0
  by_cases h7 : 6 < t.size
  · have hb : inB ((s.size - 1 : Nat) : Int) 1 6 = false := inB_r (by omega)
    have HB := Lib.hid hb
    have E := Lib.hid (RLEN (by omega))
    have HZ := Lib.hid hz
    clear hb RLEN RBAD RYES RNO hz
    go_enter Tryz.func31, Tryz.ntmps31
    go_wp2_with fail
    rw [← HT.out]
    refine (l1In_any _ _ _ _).mono ?_
    rintro e w1 ⟨rfl, rfl⟩
    rw [HB.out]
    go_wp2
    go_ret2
    exact ⟨by rw [E.out]; rfl, Below.refl _ _⟩
  · have hb : inB ((s.size - 1 : Nat) : Int) 1 6 = true := inB_t (by omega) (by omega)
    have HB := Lib.hid hb
    have hlt2 : t.size < s.size := by omega
    have ht6 : t.size ≤ 6 := by omega
    have ht1 : 1 ≤ t.size := by omega
    have HZ := Lib.hid hz
    clear hb RLEN h7 hz
    go_enter Tryz.func31, Tryz.ntmps31
    go_wp2_with fail
    rw [← HT.out]
    refine (l1In_any _ _ _ _).mono ?_
    rintro e w1 ⟨rfl, rfl⟩
    rw [HB.out]
    go_wp2
    go_loop [5, 6] (fun v i => ∃ k a : Nat, k ≤ t.size ∧ i = .int .i64 k ∧ v = .int .i64 a ∧ Lib.decFrom 0 (t.data.toList.take k) = some a) (fun _ i => t.size - (intOf i).toNat)
    case atStart => exact ⟨0, 0, Nat.zero_le _, rfl, rfl, rfl⟩
    case round =>
      obtain ⟨k, a, hk, rfl, rfl, hd⟩ := hrel
      have HD := Lib.hid hd
      have ha := dec_bound hd (by omega)
      clear hd
      by_cases hlt : k < t.size
      · by_cases h1 : (t[k].toNat : Int) < 48
        · have E := Lib.hid (RBAD k hlt (.inl h1))
          go_wp2
          go_ret2
          exact ⟨by rw [E.out]; rfl, Below.refl _ _⟩
        · by_cases h2 : 57 < (t[k].toNat : Int)
          · have E := Lib.hid (RBAD k hlt (.inr h2))
            go_wp2
            go_ret2
            exact ⟨by rw [E.out]; rfl, Below.refl _ _⟩
          · have E := Lib.hid (dec_step HD.out hlt h1 h2)
            go_wp2
            go_round
            case rel => exact ⟨k + 1, a * 10 + (t[k].toNat - 48), by omega, by go_num, by first | rfl | (congr 1; omega), E.out⟩
            case measure => simp [intOf]; omega
      · obtain rfl : k = t.size := by omega
        have e0 : t.data.toList.take t.size = t.data.toList := List.take_of_length_le (Nat.le_refl _)
        have HD2 : Hid (Lib.decFrom 0 t.data.toList = some a) := by show _ = _; rw [← e0]; exact HD.out
        have hz1 : -1000000000 < -(a : Int) := by omega
        have hz2 : -(a : Int) < 1000000000 := by omega
        clear e0
        go_wp2_with fail
        refine (l1NumZ_any _ _ hz1 hz2).mono ?_
        rintro e w1 ⟨rfl, b1⟩
        by_cases he : numZ (-(a : Int)) = s
        · have ht := bytes_eq_t he
          have E := Lib.hid (RYES a (by omega) (by omega) HD2.out he)
          clear he
          go_wp2
          go_ret2
          exact ⟨by rw [E.out]; rfl, b1⟩
        · have ht := bytes_eq_f he
          have E := Lib.hid (RNO a HD2.out he)
          clear he
          go_wp2
          go_ret2
          exact ⟨by rw [E.out]; rfl, b1⟩
theorem l1Read_any (s : ByteArray) (w : World) (hs : s.size ≤ 4194304) :
    Calls Tryz.prog 31 #[.string s] w fun e w' => e = .returned (.tuple #[.int .i64 (rdP s).1, .bool (rdP s).2]) ∧ Below w.heap.size w w' := by
  cases h : negB s
  · have hT : rdT s = s := by unfold rdT; rw [h]; rfl
    have hS : ∀ a, sgZ s a = (a : Int) := fun a => by unfold sgZ; rw [h]; rfl
    refine l1Read_pos s w hs (fun h0 h1 e => ?_) (fun h => rdP_len (by rw [hT]; exact h)) (fun k hk hb => rdP_bad (k := k) (by rw [hT]; exact hk) (by simp only [hT]; exact hb)) (fun a h1 h6 hd e => ?_) (fun a hd e => ?_)
    · unfold negB at h
      rw [dif_pos h1, beq_eq_false_iff_ne] at h
      exact h (UInt8.toNat_inj.1 (by simp; omega))
    · have := rdP_yes (s := s) (a := a) (by rw [hT]; exact h1) (by rw [hT]; exact h6) (by rw [hT]; exact hd) (by rw [hS]; exact e)
      rw [hS] at this
      exact this
    · exact rdP_no (s := s) (a := a) (by rw [hT]; exact hd) (by rw [hS]; exact e)
  · have hT : rdT s = s.extract 1 s.size := by unfold rdT; rw [h]; rfl
    have hS : ∀ a, sgZ s a = -(a : Int) := fun a => by unfold sgZ; rw [h]; rfl
    have h1 : 1 < s.size := by unfold negB at h; split at h; assumption; cases h
    have hb : (s[0].toNat : Int) = 45 := by
      unfold negB at h
      rw [dif_pos h1, beq_iff_eq] at h
      rw [h]; rfl
    refine l1Read_neg s _ w hs h1 hb rfl (fun h => rdP_len (by rw [hT]; exact h)) (fun k hk hb => rdP_bad (k := k) (by rw [hT]; exact hk) (by simp only [hT]; exact hb)) (fun a h1 h6 hd e => ?_) (fun a hd e => ?_)
    · have := rdP_yes (s := s) (a := a) (by rw [hT]; exact h1) (by rw [hT]; exact h6) (by rw [hT]; exact hd) (by rw [hS]; exact e)
      rw [hS] at this
      exact this
    · exact rdP_no (s := s) (a := a) (by rw [hT]; exact hd) (by rw [hS]; exact e)

/-- What ParseInt reads. -/
def itoaS (v : Int) : ByteArray := ⟨(Lib.itoa v).toArray⟩
def prI (s : ByteArray) : Int × Bool :=
  if 7 < s.size then (0, false) else
    match Lib.atoi s.data.toList with
    | none => (0, false)
    | some v => if inB v (-999999) 999999 = true ∧ itoaS v = s then (v, true) else (0, false)
theorem prI_long {s : ByteArray} (h : 7 < s.size) : prI s = (0, false) := by unfold prI; rw [if_pos h]
theorem prI_none {s : ByteArray} (h : Lib.atoi s.data.toList = none) : prI s = (0, false) := by unfold prI; rw [h]; split <;> rfl
theorem prI_out {s : ByteArray} {v : Int} (h : Lib.atoi s.data.toList = some v) (hr : inB v (-999999) 999999 = false) : prI s = (0, false) := by
  unfold prI; rw [h]; split
  · rfl
  · exact if_neg (by rw [hr]; rintro ⟨e, _⟩; cases e)
theorem prI_ne {s : ByteArray} {v : Int} (h : Lib.atoi s.data.toList = some v) (hr : itoaS v ≠ s) : prI s = (0, false) := by
  unfold prI; rw [h]; split
  · rfl
  · exact if_neg (fun e => hr e.2)
theorem prI_yes {s : ByteArray} {v : Int} (h7 : ¬ 7 < s.size) (h : Lib.atoi s.data.toList = some v) (h0 : -999999 ≤ v) (h1 : v ≤ 999999) (hr : itoaS v = s) : prI s = (v, true) := by
  unfold prI; rw [if_neg h7, h]
  exact if_pos ⟨inB_t h0 h1, hr⟩
theorem prI_LR (s : ByteArray) : LR s (prI s).1 (prI s).2 := fun m hm e => by
  subst e
  rw [prI_yes (v := (m : Int)) (by have := numS_six hm; omega) (atoi_num m) (by omega) (by omega) (by unfold itoaS; rw [Lib.itoa_nonneg]; rfl)]
  exact ⟨rfl, rfl⟩
set_option maxRecDepth 100000 in
set_option maxHeartbeats 2000000 in
theorem ParseInt_any (s : ByteArray) (ev : Value) (w : World) (hs : s.size ≤ 4194304) (hT : Lib.TabIs Tryz.prog w "internal/strconv.uint64pow10" .u64 Lib.pow10Tab)
    (hE : w.cell? ⟨1, 0, none⟩ = some ev) (hev : ev = .nilIface ∨ ∃ te pe, ev = .iface te pe) :
    Calls Tryz.prog 25 #[.string s] w fun e w' => e = .returned (.tuple #[.int .i64 (prI s).1, .bool (prI s).2]) ∧ Below w.heap.size w w' := by
  by_cases h7 : 7 < s.size
  · have E := Lib.hid (prI_long h7)
    clear hE hev hT
    go_enter Tryz.func25, Tryz.ntmps25
    go_wp2
    go_ret2
    exact ⟨by rw [E.out]; rfl, Below.refl _ _⟩
  have H7 := Lib.hid h7
  have hs7 : s.size ≤ 7 := by omega
  clear h7
  cases ha : Lib.atoi s.data.toList with
  | none =>
    have HA := Lib.hid (Tryz.strconv_Atoi_err s (by omega) ha ev w hE hev)
    have E := Lib.hid (prI_none ha)
    clear ha hE hev hT
    go_enter Tryz.func25, Tryz.ntmps25
    go_wp2_with fail
    refine HA.out.mono ?_
    rintro e w1 ⟨N, rfl, -, -, b1⟩
    go_wp2
    go_ret2
    exact ⟨by rw [E.out]; rfl, b1⟩
  | some v =>
    have HA := Lib.hid (Tryz.strconv_Atoi s v (by omega) ha w)
    have HL := Lib.hid ha
    have hv := Lib.atoi_bound ha (by have : s.data.toList.length = s.size := rfl; omega)
    obtain ⟨hv0, hv1⟩ := hv
    clear ha hE hev
    go_enter Tryz.func25, Tryz.ntmps25
    go_wp2_with fail
    refine HA.out.mono ?_
    rintro e w1 ⟨rfl, t, hw1⟩
    have b1 : Below w.heap.size w w1 := by rw [hw1]; exact Lib.bytesWorld_below _ _ _
    clear hw1
    go_wp2_with fail
    refine (inside_any _ _ _ _).mono ?_
    rintro e w2 ⟨rfl, rfl⟩
    cases hr : inB v (-999999) 999999
    · have E := Lib.hid (prI_out HL.out hr)
      clear hr
      go_wp2
      go_ret2
      exact ⟨by rw [E.out]; rfl, b1⟩
    · rw [inB_iff] at hr
      obtain ⟨hr0, hr1⟩ := hr
      have HI : Hid (Calls Tryz.prog 49 #[.int .i64 v] w1 fun e w' => e = .returned (.string (itoaS v)) ∧ ∃ k os, w' = grow (w1.drewN k) os) := Tryz.strconv_Itoa v (by omega) (by omega) w1 (pow10_below hT b1)
      go_wp2_with fail
      refine HI.out.mono ?_
      rintro e w3 ⟨rfl, kk, os, hw3⟩
      have b3 : Below w.heap.size w w3 := by rw [hw3]; exact below_trans b1 (below_trans (below_drewNT _ kk) (below_growT _ os))
      clear hw3
      by_cases he : itoaS v = s
      · have ht := bytes_eq_t he
        have E := Lib.hid (prI_yes H7.out HL.out hr0 hr1 he)
        clear he
        go_wp2
        go_ret2
        exact ⟨by rw [E.out]; rfl, b3⟩
      · have ht := bytes_eq_f he
        have E := Lib.hid (prI_ne HL.out he)
        clear he
        go_wp2
        go_ret2
        exact ⟨by rw [E.out]; rfl, b3⟩

end Go.Proofs.YtmahfkimeclcbaaGreatDoor
