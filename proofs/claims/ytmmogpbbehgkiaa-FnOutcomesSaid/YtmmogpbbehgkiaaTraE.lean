/-
  YtmmogpbbehgkiaaTraE: traces: spec.l23Fine; impl.isOrderly, spec.l23Orderly, spec.l23Asked, impl.areOrderly. (The case trees are printed by wip/gen/fine.py.)
-/
import Derived.Test.YtmmogpbbehgkiaaTraD
namespace Go.Proofs.Ytmmogpbbehgkiaa
open Go Go.RowKit Go.Sort
set_option linter.unusedVariables false

theorem endB_of115 {b : Int} (h : (b == 115) = true) : endB b = false := by simp at h; subst h; rfl
theorem is115_of109 {b : Int} (h : (b == 109) = true) : (b == 115) = false := by simp at h; subst h; rfl
theorem endB_of109 {b : Int} (h : (b == 109) = true) : endB b = false := by simp at h; subst h; rfl
theorem le5_of2 {b : Int} (h : (b == 2) = true) : decide (5 ≤ b) = false := by simp at h; subst h; rfl
theorem is2_of1 {b : Int} (h : (b == 1) = true) : (b == 2) = false := by simp at h; subst h; rfl
theorem le5_of1 {b : Int} (h : (b == 1) = true) : decide (5 ≤ b) = false := by simp at h; subst h; rfl
theorem getD_byte {p : ByteArray} {k : Nat} (h : k < p.size) : p.data.toList.getD k 0 = p[k] := by
  have h' : k < p.data.toList.length := by simpa using h
  rw [List.getD, List.getElem?_eq_getElem h']
  rfl

set_option maxHeartbeats 4000000 in
theorem l23Fine_any (p : ByteArray) (w : World) (hp : p.size ≤ 1048576) : Calls Try.prog 63 #[.string p] w fun e w' => e = .returned (.bool (fineP p)) ∧ w = w' := by
  go_enter Try.func63, Try.ntmps63
  go_wp2
  go_loop [3] (fun i => ∃ k : Nat, k ≤ p.size ∧ i = .int .i64 k ∧ ∀ j, j < k → okP ((p.data.toList.getD j 0).toNat : Int) p.size j = true) (fun i => p.size - (intOf i).toNat)
  case atStart => exact ⟨0, Nat.zero_le _, rfl, fun j hj => absurd hj (by omega)⟩
  case round =>
    obtain ⟨k, hk, rfl, hup⟩ := hrel
    have HU := Lib.hid hup
    clear hup
    by_cases hlt : k < p.size
    · have hbk : Hid (okP ((p.data.toList.getD k 0).toNat : Int) p.size k = okG ((p[k].toNat : Int) == 109) ((p[k].toNat : Int) == 115) (endB (p[k].toNat : Int)) p.size k) := by rw [getD_byte hlt]; exact rfl
      cases q1 : ((p[k].toNat : Int) == 109)
      · by_cases h0 : k = 0
        · have G : okG (((p[k].toNat : Int) == 109)) (((p[k].toNat : Int) == 115)) (endB (p[k].toNat : Int)) p.size k = false := by rw [q1]; simp [okG, h0]
          have f0 : ((k : Int) == 0) = true := by simp [h0]
          clear h0
          have X := Lib.hid (all_range_fails hlt (hbk.out.trans G) : fineP p = false)
          clear G
          go_wp2_with (go_at_call 51; refine (l23Ended_any _ _).mono ?_; rintro e w' ⟨rfl, rfl⟩)
          go_ret
          exact ⟨ret_bool X.out.symm, rfl⟩
        · cases q2 : ((p[k].toNat : Int) == 115)
          · cases q5 : endB (p[k].toNat : Int)
            · have G : okG (((p[k].toNat : Int) == 109)) (((p[k].toNat : Int) == 115)) (endB (p[k].toNat : Int)) p.size k = true := by rw [q1, q2, q5]; simp [okG, h0]
              have f0 : ((k : Int) == 0) = false := by simp; omega
              clear h0
              have X := Lib.hid (upto_succ HU.out (hbk.out.trans G))
              clear G
              go_wp2_with (go_at_call 51; refine (l23Ended_any _ _).mono ?_; rintro e w' ⟨rfl, rfl⟩)
              go_round
              case rel => exact ⟨k + 1, by omega, by go_num, X.out⟩
              case measure => simp [intOf]; omega
            · by_cases hl : k + 1 = p.size
              · have G : okG (((p[k].toNat : Int) == 109)) (((p[k].toNat : Int) == 115)) (endB (p[k].toNat : Int)) p.size k = true := by rw [q1, q2, q5]; simp [okG, h0, hl]
                have f0 : ((k : Int) == 0) = false := by simp; omega
                have fl : ((k : Int) != (p.size : Int) - 1) = false := by simp; omega
                clear h0 hl
                have X := Lib.hid (upto_succ HU.out (hbk.out.trans G))
                clear G
                go_wp2_with (go_at_call 51; refine (l23Ended_any _ _).mono ?_; rintro e w' ⟨rfl, rfl⟩)
                go_round
                case rel => exact ⟨k + 1, by omega, by go_num, X.out⟩
                case measure => simp [intOf]; omega
              · have G : okG (((p[k].toNat : Int) == 109)) (((p[k].toNat : Int) == 115)) (endB (p[k].toNat : Int)) p.size k = false := by rw [q1, q2, q5]; simp [okG, h0, hl]
                have f0 : ((k : Int) == 0) = false := by simp; omega
                have fl : ((k : Int) != (p.size : Int) - 1) = true := by simp; omega
                clear h0 hl
                have X := Lib.hid (all_range_fails hlt (hbk.out.trans G) : fineP p = false)
                clear G
                go_wp2_with (go_at_call 51; refine (l23Ended_any _ _).mono ?_; rintro e w' ⟨rfl, rfl⟩)
                go_ret
                exact ⟨ret_bool X.out.symm, rfl⟩
          · have q5 := endB_of115 q2
            by_cases h1 : k = 1
            · have G : okG (((p[k].toNat : Int) == 109)) (((p[k].toNat : Int) == 115)) (endB (p[k].toNat : Int)) p.size k = true := by rw [q1, q2, q5]; simp [okG, h1]
              have f0 : ((k : Int) == 0) = false := by simp; omega
              have f1 : ((k : Int) != 1) = false := by simp [h1]
              clear h0 h1
              have X := Lib.hid (upto_succ HU.out (hbk.out.trans G))
              clear G
              go_wp2_with (go_at_call 51; refine (l23Ended_any _ _).mono ?_; rintro e w' ⟨rfl, rfl⟩)
              go_round
              case rel => exact ⟨k + 1, by omega, by go_num, X.out⟩
              case measure => simp [intOf]; omega
            · have G : okG (((p[k].toNat : Int) == 109)) (((p[k].toNat : Int) == 115)) (endB (p[k].toNat : Int)) p.size k = false := by rw [q1, q2, q5]; simp [okG, h0, h1]
              have f0 : ((k : Int) == 0) = false := by simp; omega
              have f1 : ((k : Int) != 1) = true := by simp; omega
              clear h0 h1
              have X := Lib.hid (all_range_fails hlt (hbk.out.trans G) : fineP p = false)
              clear G
              go_wp2_with (go_at_call 51; refine (l23Ended_any _ _).mono ?_; rintro e w' ⟨rfl, rfl⟩)
              go_ret
              exact ⟨ret_bool X.out.symm, rfl⟩
      · have q2 := is115_of109 q1
        have q5 := endB_of109 q1
        by_cases h0 : k = 0
        · have G : okG (((p[k].toNat : Int) == 109)) (((p[k].toNat : Int) == 115)) (endB (p[k].toNat : Int)) p.size k = true := by rw [q1, q2, q5]; simp [okG, h0]
          have f0 : ((k : Int) == 0) = true := by simp [h0]
          clear h0
          have X := Lib.hid (upto_succ HU.out (hbk.out.trans G))
          clear G
          go_wp2_with (go_at_call 51; refine (l23Ended_any _ _).mono ?_; rintro e w' ⟨rfl, rfl⟩)
          go_round
          case rel => exact ⟨k + 1, by omega, by go_num, X.out⟩
          case measure => simp [intOf]; omega
        · have G : okG (((p[k].toNat : Int) == 109)) (((p[k].toNat : Int) == 115)) (endB (p[k].toNat : Int)) p.size k = false := by rw [q1, q2, q5]; simp [okG, h0]
          have f0 : ((k : Int) == 0) = false := by simp; omega
          clear h0
          have X := Lib.hid (all_range_fails hlt (hbk.out.trans G) : fineP p = false)
          clear G
          go_wp2_with (go_at_call 51; refine (l23Ended_any _ _).mono ?_; rintro e w' ⟨rfl, rfl⟩)
          go_ret
          exact ⟨ret_bool X.out.symm, rfl⟩
    · obtain rfl : k = p.size := by omega
      have X := Lib.hid (all_range_upto HU.out : fineP p = true)
      go_wp2
      go_ret
      exact ⟨ret_bool X.out.symm, rfl⟩

set_option maxHeartbeats 1000000 in
theorem l23Orderly_any (A : Option Addr) (n c : Nat) (l : List TS) (w : World) (ha : Rd tsV 2 w A n c l) (hg : l.all tsOK = true) (hn : n ≤ 1048576) :
    Calls Try.prog 50 #[.slice A n c] w fun e w' => e = .returned (.bool (ordL l)) ∧ w = w' := by
  have HG := Lib.hid hg
  have HL := Lib.hid ha.len
  clear hg
  go_enter Try.func50, Try.ntmps50
  go_wp2
  go_loop [3] (fun i => ∃ j : Nat, j ≤ 20 ∧ i = .int .i64 ((j : Int) + 1) ∧ ∀ t : Nat, t < j → fine (kinds l ((t : Int) + 1)) = true) (fun i => 21 - (intOf i).toNat)
  case atStart => exact ⟨0, by omega, rfl, fun j hj => absurd hj (by omega)⟩
  case round =>
    obtain ⟨j, hj, rfl, hup⟩ := hrel
    have HU := Lib.hid hup
    clear hup
    by_cases hlt : j < 20
    · have hps : (path l ((j : Int) + 1)).size ≤ 1048576 := by have := path_size l ((j : Int) + 1); rw [HL.out] at this; omega
      have HF := Lib.hid (fineP_path HG.out ((j : Int) + 1))
      cases hf : fineP (path l ((j : Int) + 1))
      · have X := Lib.hid (all_range_fails (p := fun (j : Nat) => fine (kinds l ((j : Int) + 1))) hlt (by rw [← HF.out]; exact hf) : ordL l = false)
        go_wp2_with (first | (go_at_call 49; refine (l23Path_any _ _ _ _ _ _ ha HG.out hn).mono ?_; rintro e w' ⟨rfl, rfl⟩) | (go_at_call 63; refine (l23Fine_any _ _ hps).mono ?_; rintro e w' ⟨rfl, rfl⟩))
        go_ret
        exact ⟨ret_bool X.out.symm, rfl⟩
      · have X := Lib.hid (upto_succ (p := fun (t : Nat) => fine (kinds l ((t : Int) + 1)) = true) HU.out (by rw [← HF.out]; exact hf))
        go_wp2_with (first | (go_at_call 49; refine (l23Path_any _ _ _ _ _ _ ha HG.out hn).mono ?_; rintro e w' ⟨rfl, rfl⟩) | (go_at_call 63; refine (l23Fine_any _ _ hps).mono ?_; rintro e w' ⟨rfl, rfl⟩))
        go_round
        case rel => exact ⟨j + 1, by omega, by go_num, X.out⟩
        case measure => simp [intOf]; omega
    · obtain rfl : j = 20 := by omega
      have X := Lib.hid (all_range_upto HU.out : ordL l = true)
      clear ha
      go_wp2
      go_ret
      exact ⟨ret_bool X.out.symm, rfl⟩

set_option maxHeartbeats 4000000 in
theorem isOrderly_any (A : Option Addr) (n c : Nat) (l : List TS) (w : World) (ha : Rd tsV 2 w A n c l) (hn : n ≤ 1048576) :
    Calls Try.prog 52 #[.slice A n c] w fun e w' => e = .returned (.bool (ordL l)) ∧ Below w.heap.size w w' := by
  have HL := Lib.hid ha.len
  go_enter Try.func52, Try.ntmps52
  go_wp2
  go_loopw [3, 4, 5, 6, 14, 15, 16] (fun i _ _ _ _ _ _ wr => ∃ j : Nat, j ≤ 20 ∧ i = .int .i64 ((j : Int) + 1) ∧ Below w.heap.size w wr ∧ ∀ t : Nat, t < j → fine (kinds l ((t : Int) + 1)) = true) (fun i _ _ _ _ _ _ _ => 21 - (intOf i).toNat)
  case atStart => exact ⟨0, by omega, rfl, Below.refl _ _, fun j hj => absurd hj (by omega)⟩
  case round =>
    obtain ⟨j, hj, rfl, hbw, hup⟩ := hrel
    have HO := Lib.hid hup
    clear hup
    obtain ⟨wo, rfl⟩ : ∃ wo : World, wo = wr := ⟨_, rfl⟩
    by_cases hj20 : j < 20
    · have hin : inB ((j : Int) + 1) 1 20 = true := inB_t (by omega) (by omega)
      obtain ⟨m, hm⟩ : ∃ m : Int, m = (j : Int) + 1 := ⟨_, rfl⟩
      have HM := Lib.hid hm.symm
      go_wp2_with fail
      refine (isMotion_any _ _).mono ?_
      rintro e w' ⟨rfl, rfl⟩
      go_wp2_with fail
      refine (kindsOf_any _ _ _ _ _ _ (ha.below hbw) hn).mono ?_
      rintro e w2 ⟨⟨B, q, d, rfl, ho⟩, hb2⟩
      have hbo := below_trans hbw hb2
      have hr := ho.rd inV_len
      rw [← hm] at hr
      have hql : q ≤ 1048576 := by rw [← ho.len]; have := kinds_len l ((j : Int) + 1); have := HL.out; omega
      have HK : Hid ((kinds l m).length = q) := by rw [hm]; exact ho.len
      clear ho hm
      go_wp2
      go_loop [5, 6, 16] (fun _ _ i => ∃ k : Nat, k ≤ q ∧ i = .int .i64 k ∧ ∀ t, t < k → okK ((kinds l m).getD t 0) q t = true) (fun _ _ i => q - (intOf i).toNat)
      case atStart => exact ⟨0, Nat.zero_le _, rfl, fun j hj => absurd hj (by omega)⟩
      case round =>
        obtain ⟨k, hk, rfl, hup⟩ := hrel
        have HU := Lib.hid hup
        clear hup
        by_cases hltq : k < q
        · obtain ⟨b1, o1, x, rfl, hs, c0⟩ := hr.in hltq
          have hlt : k < (kinds l m).length := by rw [HK.out]; exact hltq
          have hbk : Hid (okK ((kinds l m).getD k 0) q k = okG (x == 1) (x == 2) (decide (5 ≤ x)) q k) := by rw [List.getD, hs]; exact rfl
          clear hs hr ha
          cases q1 : (x == 1)
          · by_cases h0 : k = 0
            · have G : okG ((x == 1)) ((x == 2)) (decide (5 ≤ x)) q k = false := by rw [q1]; simp [okG, h0]
              have f0 : ((k : Int) == 0) = true := by simp [h0]
              clear h0
              have X : Hid (fine (kinds l m) = false) := by unfold fine; rw [HK.out]; exact all_range_fails hltq (hbk.out.trans G)
              have Y := Lib.hid (all_range_fails (p := fun (j : Nat) => fine (kinds l ((j : Int) + 1))) hj20 (by rw [HM.out]; exact X.out) : ordL l = false)
              clear G
              go_wp2
              go_ret
              exact ⟨ret_bool Y.out.symm, hbo⟩
            · cases q2 : (x == 2)
              · cases q5 : decide (5 ≤ x)
                · have G : okG ((x == 1)) ((x == 2)) (decide (5 ≤ x)) q k = true := by rw [q1, q2, q5]; simp [okG, h0]
                  have f0 : ((k : Int) == 0) = false := by simp; omega
                  clear h0
                  have X := Lib.hid (upto_succ HU.out (hbk.out.trans G))
                  clear G
                  go_wp2
                  go_round
                  case rel => exact ⟨k + 1, by omega, by go_num, X.out⟩
                  case measure => simp [intOf]; omega
                · by_cases hl : k + 1 = q
                  · have G : okG ((x == 1)) ((x == 2)) (decide (5 ≤ x)) q k = true := by rw [q1, q2, q5]; simp [okG, h0, hl]
                    have f0 : ((k : Int) == 0) = false := by simp; omega
                    have fl : ((k : Int) != (q : Int) - 1) = false := by simp; omega
                    clear h0 hl
                    have X := Lib.hid (upto_succ HU.out (hbk.out.trans G))
                    clear G
                    go_wp2
                    go_round
                    case rel => exact ⟨k + 1, by omega, by go_num, X.out⟩
                    case measure => simp [intOf]; omega
                  · have G : okG ((x == 1)) ((x == 2)) (decide (5 ≤ x)) q k = false := by rw [q1, q2, q5]; simp [okG, h0, hl]
                    have f0 : ((k : Int) == 0) = false := by simp; omega
                    have fl : ((k : Int) != (q : Int) - 1) = true := by simp; omega
                    clear h0 hl
                    have X : Hid (fine (kinds l m) = false) := by unfold fine; rw [HK.out]; exact all_range_fails hltq (hbk.out.trans G)
                    have Y := Lib.hid (all_range_fails (p := fun (j : Nat) => fine (kinds l ((j : Int) + 1))) hj20 (by rw [HM.out]; exact X.out) : ordL l = false)
                    clear G
                    go_wp2
                    go_ret
                    exact ⟨ret_bool Y.out.symm, hbo⟩
              · have q5 := le5_of2 q2
                by_cases h1 : k = 1
                · have G : okG ((x == 1)) ((x == 2)) (decide (5 ≤ x)) q k = true := by rw [q1, q2, q5]; simp [okG, h1]
                  have f0 : ((k : Int) == 0) = false := by simp; omega
                  have f1 : ((k : Int) != 1) = false := by simp [h1]
                  clear h0 h1
                  have X := Lib.hid (upto_succ HU.out (hbk.out.trans G))
                  clear G
                  go_wp2
                  go_round
                  case rel => exact ⟨k + 1, by omega, by go_num, X.out⟩
                  case measure => simp [intOf]; omega
                · have G : okG ((x == 1)) ((x == 2)) (decide (5 ≤ x)) q k = false := by rw [q1, q2, q5]; simp [okG, h0, h1]
                  have f0 : ((k : Int) == 0) = false := by simp; omega
                  have f1 : ((k : Int) != 1) = true := by simp; omega
                  clear h0 h1
                  have X : Hid (fine (kinds l m) = false) := by unfold fine; rw [HK.out]; exact all_range_fails hltq (hbk.out.trans G)
                  have Y := Lib.hid (all_range_fails (p := fun (j : Nat) => fine (kinds l ((j : Int) + 1))) hj20 (by rw [HM.out]; exact X.out) : ordL l = false)
                  clear G
                  go_wp2
                  go_ret
                  exact ⟨ret_bool Y.out.symm, hbo⟩
          · have q2 := is2_of1 q1
            have q5 := le5_of1 q1
            by_cases h0 : k = 0
            · have G : okG ((x == 1)) ((x == 2)) (decide (5 ≤ x)) q k = true := by rw [q1, q2, q5]; simp [okG, h0]
              have f0 : ((k : Int) == 0) = true := by simp [h0]
              clear h0
              have X := Lib.hid (upto_succ HU.out (hbk.out.trans G))
              clear G
              go_wp2
              go_round
              case rel => exact ⟨k + 1, by omega, by go_num, X.out⟩
              case measure => simp [intOf]; omega
            · have G : okG ((x == 1)) ((x == 2)) (decide (5 ≤ x)) q k = false := by rw [q1, q2, q5]; simp [okG, h0]
              have f0 : ((k : Int) == 0) = false := by simp; omega
              clear h0
              have X : Hid (fine (kinds l m) = false) := by unfold fine; rw [HK.out]; exact all_range_fails hltq (hbk.out.trans G)
              have Y := Lib.hid (all_range_fails (p := fun (j : Nat) => fine (kinds l ((j : Int) + 1))) hj20 (by rw [HM.out]; exact X.out) : ordL l = false)
              clear G
              go_wp2
              go_ret
              exact ⟨ret_bool Y.out.symm, hbo⟩
        · obtain rfl : k = q := by omega
          have X : Hid (fine (kinds l ((j : Int) + 1)) = true) := by rw [HM.out]; unfold fine; rw [HK.out]; exact all_range_upto HU.out
          have Y := Lib.hid (upto_succ (p := fun (t : Nat) => fine (kinds l ((t : Int) + 1)) = true) HO.out X.out)
          clear hr
          go_wp2
          go_roundw
          case rel => exact ⟨j + 1, by omega, by go_num, hbo, Y.out⟩
          case measure => simp [intOf]; omega
    · obtain rfl : j = 20 := by omega
      have X := Lib.hid (all_range_upto HO.out : ordL l = true)
      have hin : inB (((20 : Nat) : Int) + 1) 1 20 = false := inB_r (by omega)
      clear ha
      go_wp2_with (go_at_call 42; refine (isMotion_any _ _).mono ?_; rintro e w' ⟨rfl, rfl⟩)
      go_ret
      exact ⟨ret_bool X.out.symm, hbw⟩

end Go.Proofs.Ytmmogpbbehgkiaa
