/-
  YtcockjjilcapaaaGreatDoorRdn: texts cut and numbers read (l1Split, l1Read, ParseInt), by contracts. (Printed by wip/gen/rdn.py.)
-/
import Derived.Test.YtcockjjilcapaaaGreatDoorCut
import Derived.Test.YtcockjjilcapaaaGreatDoorIn
import Derived.Test.YtcockjjilcapaaaGreatDoorSt
import Derived.IntWalk
import Derived.Lib.AtoiBound
import Derived.Lib.AtoiErrMem
namespace Go.Proofs.YtcockjjilcapaaaGreatDoor
open Go Go.RowKit Go.Sort
set_option linter.unusedVariables false

/-- Where s is the numeral of m, the number and the yes that reading it gives. -/
def LR (s : ByteArray) (n : Int) (ok : Bool) : Prop := ∀ m : Nat, m ≤ 999999 → s = numS m → n = (m : Int) ∧ ok = true
theorem LR_len {s : ByteArray} {n : Int} {ok : Bool} (h : ¬ (1 ≤ s.size ∧ s.size ≤ 6)) : LR s n ok := fun m hm e => by
  subst e
  exact absurd ⟨numS_pos m, numS_six hm⟩ h
theorem LR_dig {s : ByteArray} {n : Int} {ok : Bool} {k : Nat} (hk : k < s.size) (h : (s[k].toNat : Int) < 48 ∨ 57 < (s[k].toNat : Int)) : LR s n ok := fun m hm e => by
  subst e
  exact absurd (List.mem_of_getElem? (byte_get hk)) (numS_not (by omega))
theorem LR_ok {s : ByteArray} {a : Nat} (h : Lib.decFrom 0 s.data.toList = some a) : LR s (a : Int) true := fun m hm e => by
  subst e
  rw [numS_data, dec_num] at h
  exact ⟨by rw [Option.some.inj h], rfl⟩
theorem LR_no {s : ByteArray} {a : Nat} {n : Int} {ok : Bool} (h : Lib.decFrom 0 s.data.toList = some a) (hne : numS a ≠ s) : LR s n ok := fun m hm e => by
  subst e
  rw [numS_data, dec_num] at h
  exact absurd (by rw [Option.some.inj h]) hne
theorem LR_at_none {s : ByteArray} {n : Int} {ok : Bool} (h : Lib.atoi s.data.toList = none) : LR s n ok := fun m hm e => by
  subst e
  rw [atoi_num] at h
  cases h
theorem LR_at_range {s : ByteArray} {v n : Int} {ok : Bool} (h : Lib.atoi s.data.toList = some v) (hr : inB v (-999999) 999999 = false) : LR s n ok := fun m hm e => by
  subst e
  rw [atoi_num] at h
  have := Option.some.inj h
  subst this
  rw [inB_t (by omega) (by omega)] at hr
  cases hr
theorem LR_at {s : ByteArray} {v : Int} (h : Lib.atoi s.data.toList = some v) : LR s v true := fun m hm e => by
  subst e
  rw [atoi_num] at h
  exact ⟨(Option.some.inj h).symm, rfl⟩
theorem LR_at_ne {s : ByteArray} {v n : Int} {ok : Bool} (h : Lib.atoi s.data.toList = some v) (hne : (⟨(Lib.itoa v).toArray⟩ : ByteArray) ≠ s) : LR s n ok := fun m hm e => by
  subst e
  rw [atoi_num] at h
  have := Option.some.inj h
  subst this
  exact absurd (by rw [Lib.itoa_nonneg]; rfl) hne
theorem bytes_eq_t {a b : ByteArray} (h : a = b) : (a.toList == b.toList) = true := by rw [h]; simp
theorem toList_inj {a b : ByteArray} (h : a.toList = b.toList) : a = b := by
  have h2 := congrArg List.toArray h
  rw [ByteArray.toList_eq, ByteArray.toList_eq] at h
  cases a; cases b
  simp only [Array.toList_inj] at h
  rw [h]
theorem bytes_eq_f {a b : ByteArray} (h : a ≠ b) : (a.toList == b.toList) = false := by
  rw [beq_eq_false_iff_ne]
  exact fun e => h (toList_inj e)

set_option maxRecDepth 100000 in
set_option maxHeartbeats 1000000 in
theorem l1Split_any (s : ByteArray) (b : UInt8) (w : World) (hs : s.size ≤ 4194304) :
    Calls Tryz.prog 48 #[.string s, .int .u8 (b.toNat : Int)] w fun e w' => (∃ B q d, e = .returned (.slice B q d) ∧ Own stV 1 w' w.heap.size 9 B q d (cutS s b)) ∧ Below w.heap.size w w' := by
  obtain ⟨i0, hi, hz0, hz1, hz2⟩ := info_parts Tryz.infoSt
  have ho0 := Own.empty stV 1 w 9
  go_enter Tryz.func48, Tryz.ntmps48
  go_wp2
  go_loopw [5, 6, 7] (fun v fr i wr => ∃ k f : Nat, k ≤ s.size ∧ f ≤ k ∧ i = .int .i64 k ∧ fr = .int .i64 f ∧ ∃ B q d D, v = .slice B q d ∧ q ≤ k ∧ Own stV 1 wr w.heap.size 9 B q d D ∧ cutS s b = D ++ cutF s b f k ∧ Below w.heap.size w wr) (fun _ _ i _ => s.size - (intOf i).toNat)
  case atStart => exact ⟨0, 0, by omega, by omega, rfl, rfl, _, 0, 0, [], rfl, Nat.le_refl _, ho0, (cutF_0 s b).symm, below_alloc _⟩
  case round =>
    clear ho0
    obtain ⟨k, f, hk, hf, rfl, rfl, B, q, d, D, rfl, hq, ho, hcut, hbw⟩ := hrel
    have HC := Lib.hid hcut
    clear hcut
    by_cases hlt : k < s.size
    · by_cases h1 : s[k] = b
      · have E : Hid (cutS s b = (D ++ [s.extract f k]) ++ cutF s b (k + 1) (k + 1)) := by show _ = _; rw [HC.out, cutF_hit hf hlt h1]; simp
        have ht : ((s[k].toNat : Int) == (b.toNat : Int)) = true := by rw [h1]; simp
        clear h1
        go_wp2_with (at_builtin; refine wpList_push rfl _ _ _ rfl w.heap.size 9 i0 (.string ByteArray.empty) 1 16 Tryz.underlying38 hi hz0 hz1 hz2 rfl (by omega) stV stV_len one_st B q d _ rfl ho (s.extract f k) _ rfl _ rfl (by first | rfl | simp) (by simp only [maxLen]; omega) (by omega) hbw.size ?_; intro B3 d3 w3 ho3 hg3)
        go_roundw
        case rel => exact ⟨k + 1, k + 1, by omega, by omega, by go_num, by go_num, B3, q + 1, d3, _, rfl, by omega, ho3, E.out, below_push hbw ho hg3 (Nat.le_refl _)⟩
        case measure => simp [intOf]; omega
      · have E : Hid (cutS s b = D ++ cutF s b f (k + 1)) := by show _ = _; rw [HC.out, cutF_miss hf hlt h1]
        have ht : ((s[k].toNat : Int) == (b.toNat : Int)) = false := by
          rw [beq_eq_false_iff_ne]
          intro e
          exact h1 (UInt8.toNat_inj.1 (by omega))
        clear h1
        go_wp2
        go_roundw
        case rel => exact ⟨k + 1, f, by omega, by omega, by go_num, rfl, B, q, d, D, rfl, by omega, ho, E.out, hbw⟩
        case measure => simp [intOf]; omega
    · obtain rfl : k = s.size := by omega
      have E : Hid (cutS s b = D ++ [s.extract f s.size]) := by show _ = _; rw [HC.out, cutF_end hf]
      go_wp2_with (at_builtin; refine wpList_push rfl _ _ _ rfl w.heap.size 9 i0 (.string ByteArray.empty) 1 16 Tryz.underlying38 hi hz0 hz1 hz2 rfl (by omega) stV stV_len one_st B q d _ rfl ho (s.extract f s.size) _ rfl _ rfl (by first | rfl | simp) (by simp only [maxLen]; omega) (by omega) hbw.size ?_; intro B3 d3 w3 ho3 hg3)
      go_ret
      exact ⟨⟨_, _, _, rfl, by rw [E.out]; exact ho3⟩, below_push hbw ho hg3 (Nat.le_refl _)⟩

end Go.Proofs.YtcockjjilcapaaaGreatDoor
