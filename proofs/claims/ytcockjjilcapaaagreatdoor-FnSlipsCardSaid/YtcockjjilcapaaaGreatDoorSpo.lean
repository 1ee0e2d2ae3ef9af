/-
  YtcockjjilcapaaaGreatDoorSpo: a drawn text that is spoilt: a byte more, less, or another one.
-/
import Derived.Test.YtcockjjilcapaaaGreatDoorCur
namespace Go.Proofs.YtcockjjilcapaaaGreatDoor
open Go Go.RowKit Go.Sort
set_option linter.unusedVariables false

theorem pos_not_empty {t : ByteArray} (h : 0 < t.size) : t.toList.isEmpty = false := by
  cases e : t.toList.isEmpty with
  | false => rfl
  | true =>
    have h2 := (toList_nil_iff_emptyBytes t).1 (by simpa using e)
    subst h2
    simp at h
set_option maxRecDepth 100000 in
set_option maxHeartbeats 2000000 in
theorem spoilt_any (g K : Nat) (t v : ByteArray) (w : World) (h : Cur w g K) (hK : K ≤ 100000) (ht : t.size ≤ 60000) (hv0 : 1 ≤ v.size) (hv : v.size ≤ 100) :
    Calls Tryz.prog 24 #[.pointer (some ⟨g, 0, none⟩), .string t, .string v] w fun e w' => (∃ x : ByteArray, e = .returned (.string x) ∧ x.size ≤ t.size + 2) ∧ Cur w' g (K + 6) ∧ w.grownBy w' (some g) := by
  have HC := Lib.hid h
  clear h
  by_cases h0 : t.size = 0
  · obtain rfl : t = ⟨#[]⟩ := (by
      rcases t with ⟨d⟩
      have : d.size = 0 := h0
      rw [Array.eq_empty_of_size_eq_zero this])
    have hx : (v.extract 0 1).size ≤ 1 := by rw [ByteArray.size_extract]; omega
    go_enter Tryz.func24, Tryz.ntmps24
    go_wp2
    go_ret
    exact ⟨⟨_, rfl, by omega⟩, HC.out.le (by omega), World.grownBy.refl _ _⟩
  · have he := pos_not_empty (t := t) (by omega)
    go_enter Tryz.func24, Tryz.ntmps24
    go_wp2_with fail
    refine (pick_any g K _ _ HC.out (by omega) (by omega) (by omega)).mono ?_
    rintro e w1 ⟨⟨i, rfl, hi0, hi1⟩, hc1, hg1⟩
    have H1 := Lib.hid hc1
    clear hc1 HC
    obtain ⟨p, rfl⟩ := Int.eq_ofNat_of_zero_le hi0
    go_wp2_with fail
    refine (pick_any g (K + 2) _ _ H1.out (by omega) (by omega) (by omega)).mono ?_
    rintro e w2 ⟨⟨j, rfl, hj0, hj1⟩, hc2, hg2⟩
    have H2 := Lib.hid hc2
    have G2 := Lib.hid (grown_trans hg1 hg2)
    clear hc2 H1 hg1 hg2
    obtain ⟨q, rfl⟩ := Int.eq_ofNat_of_zero_le hj0
    have hq1 : (v.extract q v.size).size = v.size - q := by rw [ByteArray.size_extract]; omega
    have hq2 : ((v.extract q v.size).extract 0 1).size = 1 := by rw [ByteArray.size_extract]; omega
    have hp1 : (t.extract 0 p).size = p := by rw [ByteArray.size_extract]; omega
    have hp2 : (t.extract p t.size).size = t.size - p := by rw [ByteArray.size_extract]; omega
    have hp3 : (t.extract (p + 1) t.size).size = t.size - (p + 1) := by rw [ByteArray.size_extract]; omega
    have hpb : (0 : Int) ≤ (p : Int) ∧ (p : Int) ≤ (t.size : Int) := by omega
    have hpb0 : (0 : Int) ≤ (p : Int) := by omega
    have hpb1 : (p : Int) ≤ (t.size : Int) := by omega
    have hpt : p + 1 ≤ t.size := by omega
    have hqv : q + 1 ≤ v.size := by omega
    clear hi0 hi1 hj0 hj1
    go_wp2_with fail
    refine (pick_any g (K + 4) _ _ H2.out (by omega) (by omega) (by omega)).mono ?_
    rintro e w3 ⟨⟨z, rfl, hz0, hz1⟩, hc3, hg3⟩
    have H3 := Lib.hid hc3
    have G3 := Lib.hid (grown_trans G2.out hg3)
    clear hc3 H2 G2 hg3
    by_cases z0 : z = 0
    · subst z0
      have a1 : (t.extract 0 p ++ (v.extract q v.size).extract 0 1).size ≤ maxLen := by rw [ByteArray.size_append, hp1, hq2]; simp only [maxLen]; omega
      have a2 : (t.extract 0 p ++ (v.extract q v.size).extract 0 1 ++ t.extract p t.size).size ≤ maxLen := by rw [ByteArray.size_append, ByteArray.size_append, hp1, hp2, hq2]; simp only [maxLen]; omega
      go_wp2_with fail
      go_quiet (fail)
      go_wp2
      go_ret
      exact ⟨⟨_, rfl, by simp only [ByteArray.size_append, ByteArray.size_extract]; omega⟩, H3.out.below (below_drewN _ _), grown_below G3.out (below_drewN _ _)⟩
    · by_cases z1 : z = 1
      · subst z1
        have a1 : (t.extract 0 p ++ (v.extract q v.size).extract 0 1).size ≤ maxLen := by rw [ByteArray.size_append, hp1, hq2]; simp only [maxLen]; omega
        have a2 : (t.extract 0 p ++ (v.extract q v.size).extract 0 1 ++ t.extract (p + 1) t.size).size ≤ maxLen := by rw [ByteArray.size_append, ByteArray.size_append, hp1, hp3, hq2]; simp only [maxLen]; omega
        go_wp2_with fail
        go_quiet (fail)
        go_wp2
        go_ret
        exact ⟨⟨_, rfl, by simp only [ByteArray.size_append, ByteArray.size_extract]; omega⟩, H3.out.below (below_drewN _ _), grown_below G3.out (below_drewN _ _)⟩
      · have e0 : (z == 0) = false := by simpa using z0
        have e1 : (z == 1) = false := by simpa using z1
        have a2 : (t.extract 0 p ++ t.extract (p + 1) t.size).size ≤ maxLen := by rw [ByteArray.size_append, hp1, hp3]; simp only [maxLen]; omega
        go_wp2_with fail
        go_quiet (fail)
        go_wp2
        go_ret
        exact ⟨⟨_, rfl, by simp only [ByteArray.size_append, ByteArray.size_extract]; omega⟩, H3.out.below (below_drewN _ _), grown_below G3.out (below_drewN _ _)⟩

end Go.Proofs.YtcockjjilcapaaaGreatDoor
