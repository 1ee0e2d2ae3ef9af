/-
  YtmpnpbanelehcaaDivH: clauses: FallenClauses, both sides. (Printed by wip/gen/divh.py.)
-/
import Derived.Test.YtmpnpbanelehcaaDivG
import Derived.Test.YtmpnpbanelehcaaTail
namespace Go.Proofs.Ytmpnpbanelehcaa
open Go Go.RowKit Go.Sort
set_option linter.unusedVariables false

theorem blk_ne {A B : Option Addr} (h : ∀ k, blockOf B = some k → blockOf A ≠ some k) : blockOf B = none ∨ blockOf B ≠ blockOf A := by
  cases hb : blockOf B with
  | none => exact .inl rfl
  | some k => exact .inr (fun e => h k hb e.symm)


set_option maxRecDepth 100000 in
set_option maxHeartbeats 2000000 in
theorem implFallen_any (A : Option Addr) (n c : Nat) (hs : List HC) (l : List CL) (Aa : Option Addr) (na ca : Nat) (ad : List Bool) (w : World) (ha : RdC w A n c hs l) (hb : Rd boV 1 w Aa na ca ad) (hg : ∀ x ∈ l, ClSz x) :
    Calls Try.prog 35 #[.slice A n c, .slice Aa na ca] w fun e w' => (∃ B q d, e = .returned (.tuple #[.slice B q d, .bool (votB l ad)]) ∧ Own inV 1 w' w.heap.size 3 B q d (falL l ad)) ∧ Below w.heap.size w w' := by
  have HL := Lib.hid ha.len
  have HA := Lib.hid hb.len
  go_enter Try.func35, Try.ntmps35
  go_wp2_with fail
  refine (isVote_any _ _ _ _ _ _ _ _ _ _ ha hb hg).mono ?_
  rintro e w1 ⟨rfl, b1⟩
  cases h1 : votB l ad
  · have E := Lib.hid h1
    clear ha hb
    go_wp2
    go_ret2
    exact ⟨⟨_, _, _, ret_sl_bool' E.out.symm, by rw [falL_no E.out]; exact Own.nil _ _ _⟩, b1⟩
  have E := Lib.hid h1
  have hv : clsB l = true := by unfold votB at h1; rw [Bool.and_eq_true] at h1; exact h1.1
  obtain rfl : na = n := by unfold votB at h1; rw [Bool.and_eq_true] at h1; have := of_decide_eq_true h1.2; rw [HA.out, HL.out] at this; exact this
  have hn8 : na ≤ 8 := by rw [← HL.out]; exact cls_len hv
  clear h1 hg
  go_wp2_with fail
  refine (standing_any _ _ _ _ l _ _ ad _ (ha.below b1) (hb.below b1) hv).mono ?_
  rintro e w2 ⟨⟨B, d, rfl, o2⟩, b2⟩
  have t2 := below_trans b1 b2
  have hs1 := b1.size
  have o2' : Own boV 1 w2 w1.heap.size 4 B na d (falT l ad 0) := by rw [falT_start]; exact o2
  clear ha o2
  go_wp2
  go_loopw [17] (fun tv wr => ∃ t : Nat, t ≤ na ∧ tv = .int .i64 t ∧ Own boV 1 wr w1.heap.size 4 B na d (falT l ad t) ∧ Below w.heap.size w wr) (fun tv _ => na - (intOf tv).toNat)
  case atStart => exact ⟨0, Nat.zero_le _, rfl, o2', t2⟩
  case round =>
    clear o2' t2
    obtain ⟨t, ht, rfl, ho, hbw⟩ := hrel
    by_cases htn : t < na
    · obtain ⟨g, rfl⟩ := ho.form (by omega)
      have hgb : w1.heap.size ≤ g := (ho.lt (k := g) rfl).1
      obtain ⟨b2, o2, a, rfl, hax, d0⟩ := (hb.below hbw).bo htn
      have htl : t < l.length := by rw [HL.out]; exact htn
      have g1 := falT_get (l := l) (ad := ad) htl
      have FP := Lib.hid (show falP l ad t = (a && !(stB l ad).getD t false) by unfold falP; simp only [List.getD, hax, Option.getD_some])
      have NX := Lib.hid (falT_next (l := l) (ad := ad) (t := t))
      generalize (stB l ad).getD t false = s1 at *
      have c1 := ho.cell boV_len (i := t) (j := 0) g1 rfl
      have f1 := ho.frozen t
      simp only [Nat.mul_one, Nat.add_zero] at c1
      have ht0 : (0 : Int) ≤ (t : Int) := by omega
      have htn' : (t : Int) < (na : Int) := by omega
      have ST := ho.store boV_len (i := t) (j := 0) g1 (by omega) (a && !s1) (.bool (a && !s1)) rfl
      simp only [Nat.mul_one, Nat.add_zero] at ST
      rw [← FP.out, NX.out, FP.out] at ST
      have STH := Lib.hid ST
      clear ST htl g1 ho NX hax
      cases a
      · go_wp2
        have S1 := STH.out.1
        simp only [Bool.false_and] at S1
        go_roundw
        case rel => exact ⟨t + 1, by omega, by go_num, S1, below_setCell hbw _ _ _ (by omega)⟩
        case measure => first | (simp [intOf]; done) | (simp [intOf]; omega)
      · cases s1
        · go_wp2
          have S1 := STH.out.1
          simp only [Bool.true_and, Bool.not_false] at S1
          go_roundw
          case rel => exact ⟨t + 1, by omega, by go_num, S1, below_setCell hbw _ _ _ (by omega)⟩
          case measure => first | (simp [intOf]; done) | (simp [intOf]; omega)
        · go_wp2
          have S1 := STH.out.1
          simp only [Bool.true_and, Bool.not_true] at S1
          go_roundw
          case rel => exact ⟨t + 1, by omega, by go_num, S1, below_setCell hbw _ _ _ (by omega)⟩
          case measure => first | (simp [intOf]; done) | (simp [intOf]; omega)
    · obtain rfl : t = na := by omega
      have FE := Lib.hid (falT_end (l := l) (ad := ad))
      rw [HL.out] at FE
      have HO := Lib.hid ho
      clear hb ho
      go_wp2_with fail
      refine (chosen_any _ _ _ _ _ (HO.out.rd boV_len) (by omega)).mono ?_
      rintro e w3 ⟨⟨B3, q3, d3, rfl, o3⟩, b3⟩
      have O3 := Lib.hid o3
      clear o3
      go_wp2
      go_ret2
      exact ⟨⟨_, _, _, ret_sl_bool' E.out.symm, by rw [falL_yes E.out, HL.out, ← FE.out]; exact O3.out.base_le hbw.size⟩, below_trans hbw b3⟩


set_option maxRecDepth 100000 in
set_option maxHeartbeats 2000000 in
theorem specFallen_any (A : Option Addr) (n c : Nat) (hs : List HC) (l : List CL) (Aa : Option Addr) (na ca : Nat) (ad : List Bool) (w : World) (ha : RdC w A n c hs l) (hb : Rd boV 1 w Aa na ca ad) (hg : ∀ x ∈ l, ClSz x) :
    Calls Try.prog 34 #[.slice A n c, .slice Aa na ca] w fun e w' => (∃ B q d, e = .returned (.tuple #[.slice B q d, .bool (votB l ad)]) ∧ Own inV 1 w' w.heap.size 3 B q d (falL l ad)) ∧ Below w.heap.size w w' := by
  have HL := Lib.hid ha.len
  have HA := Lib.hid hb.len
  have oe := Own.empty inV 1 w 3
  have b0 := below_alloc (w := w) (.cells #[] 3)
  obtain ⟨i0, hii, hz0, hz1, hz2⟩ := info_parts Try.infoin
  go_enter Try.func34, Try.ntmps34
  go_wp2_with fail
  have H0 := Lib.hid hb
  generalize hgw0 : w.alloc (.cells #[] 3) = w0 at *
  clear hgw0
  replace ha := ha.below b0
  replace hb := hb.below b0
  refine (l19Asked_any _ _ _ _ _ _ _ _ _ _ ha hb hg).mono ?_
  rintro e w1 ⟨rfl, b1⟩
  cases h1 : votB l ad
  · have E := Lib.hid h1
    clear ha hb
    go_wp2
    go_ret2
    exact ⟨⟨_, _, _, ret_sl_bool' E.out.symm, by rw [falL_no E.out]; exact oe.below b1⟩, below_trans b0 b1⟩
  have E := Lib.hid h1
  have hv : clsB l = true := by unfold votB at h1; rw [Bool.and_eq_true] at h1; exact h1.1
  obtain rfl : na = n := by unfold votB at h1; rw [Bool.and_eq_true] at h1; have := of_decide_eq_true h1.2; rw [HA.out, HL.out] at this; exact this
  have hn8 : na ≤ 8 := by rw [← HL.out]; exact cls_len hv
  clear h1 hg
  go_wp2_with fail
  refine (l19Stand_any _ _ _ _ l _ _ ad _ (ha.below b1) (hb.below b1) hv).mono ?_
  rintro e w2 ⟨⟨B1, q1, d1, rfl, o2⟩, b2⟩
  have t2 := below_trans (below_trans b0 b1) b2
  have oe2 := (oe.below b1).below b2
  have R0 := Lib.hid (hb.below (below_trans b1 b2))
  have hq1 : q1 ≤ na := by rw [← o2.len, ← HL.out]; exact Nat.le_trans (chs_len _) (Nat.le_of_eq (stB_len _ _))
  have D0 : Hid (∀ k, blockOf B1 = some k → blockOf (some (⟨w.heap.size, 0, none⟩ : Addr)) ≠ some k) := fun k hk e => by
    have h1 := (o2.lt hk).1
    have h2 := (oe.lt (k := w.heap.size) rfl).2
    have h3 := b1.size
    simp [blockOf] at e
    omega
  have T2 := Lib.hid t2
  clear ha hb oe
  go_wp2
  go_loopw [6, 8] (fun v kv wr => ∃ k : Nat, k ≤ na ∧ kv = .int .i64 k ∧ (∃ B q d, v = .slice B q d ∧ q ≤ k ∧ Own inV 1 wr w.heap.size 3 B q d (chP k (falP l ad)) ∧ ∀ j, blockOf B1 = some j → blockOf B ≠ some j) ∧ Below w.heap.size w wr ∧ Own inV 1 wr w1.heap.size 3 B1 q1 d1 (chs (stB l ad))) (fun _ kv _ => na - (intOf kv).toNat)
  case atStart => exact ⟨0, Nat.zero_le _, rfl, ⟨_, 0, 0, rfl, Nat.le_refl _, oe2, D0.out⟩, T2.out, o2⟩
  case round =>
    clear oe2 o2 t2 D0 b0 b1 b2
    obtain ⟨k, hk, rfl, ⟨B, q, d, rfl, hq, ho, hds⟩, hbw, os⟩ := hrel
    have DS := Lib.hid hds
    have HO := Lib.hid ho
    have OS := Lib.hid os
    clear hds ho os
    by_cases hlt : k < na
    · obtain ⟨b2, o2, a, hAe, hax, d0⟩ := (H0.out.below hbw).bo hlt
      have NX := Lib.hid (chP_succ k (falP l ad))
      have HHS := Lib.hid (has_chs (bs := stB l ad) (y := (k : Int)) (by omega))
      rw [Int.toNat_natCast] at HHS
      have FP := Lib.hid (show falP l ad k = (a && !(stB l ad).getD k false) by unfold falP; simp only [List.getD, hax, Option.getD_some])
      clear hax
      rw [hAe]
      clear hAe
      cases a
      · have E := Lib.hid (show chP (k + 1) (falP l ad) = chP k (falP l ad) by rw [NX.out, FP.out]; simp)
        go_wp2
        go_roundw
        case rel => exact ⟨k + 1, by omega, by go_num, ⟨B, q, d, rfl, by omega, by rw [E.out]; exact HO.out, DS.out⟩, hbw, OS.out⟩
        case measure => first | (simp [intOf]; done) | (simp [intOf]; omega)
      · go_wp2_with fail
        refine (l1Has_any _ _ _ _ _ _ (OS.out.rd inV_len)).mono ?_
        rintro e w4 ⟨rfl, rfl⟩
        rw [HHS.out]
        cases hs1 : (stB l ad).getD k false
        · have E := Lib.hid (show chP (k + 1) (falP l ad) = chP k (falP l ad) ++ [(k : Int)] by rw [NX.out, FP.out, hs1]; simp)
          clear hs1
          go_wp2_with (at_builtin; refine wpList_push_at rfl _ _ _ rfl w.heap.size 3 i0 (.int .i64 0) 1 8 Try.underlying31 hii hz0 hz1 hz2 rfl (by omega) inV inV_len one_int2 B q d _ rfl HO.out (k : Int) _ rfl _ rfl (by first | rfl | simp) (by simp only [maxLen]; omega) (by omega) hbw.size ?_; intro B3 d3 w5 ho3 hg3 hat)
          have O3 := Lib.hid ho3
          have OS2 := Lib.hid (OS.out.grown hg3 (blk_ne DS.out))
          have DS2 := Lib.hid (fun (j : Nat) hj => hat j (OS.out.lt hj).2 (DS.out j hj))
          clear ho3 hat
          go_roundw
          case rel => exact ⟨k + 1, by omega, by go_num, ⟨B3, q + 1, d3, rfl, by omega, by rw [E.out]; exact O3.out, DS2.out⟩, below_push hbw HO.out hg3 (Nat.le_refl _), OS2.out⟩
          case measure => first | (simp [intOf]; done) | (simp [intOf]; omega)
        · have E := Lib.hid (show chP (k + 1) (falP l ad) = chP k (falP l ad) by rw [NX.out, FP.out, hs1]; simp)
          clear hs1
          go_wp2
          go_roundw
          case rel => exact ⟨k + 1, by omega, by go_num, ⟨B, q, d, rfl, by omega, by rw [E.out]; exact HO.out, DS.out⟩, hbw, OS.out⟩
          case measure => first | (simp [intOf]; done) | (simp [intOf]; omega)
    · obtain rfl : k = na := by omega
      go_wp2
      go_ret2
      exact ⟨⟨_, _, _, ret_sl_bool' E.out.symm, by rw [falL_yes E.out, HL.out]; exact HO.out⟩, hbw⟩


end Go.Proofs.Ytmpnpbanelehcaa
