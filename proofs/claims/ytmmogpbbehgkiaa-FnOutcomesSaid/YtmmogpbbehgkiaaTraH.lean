/-
  YtmmogpbbehgkiaaTraH: traces: both OpenAfter, both OutcomeCounts.
-/
import Derived.Test.YtmmogpbbehgkiaaTraG
namespace Go.Proofs.Ytmmogpbbehgkiaa
open Go Go.RowKit Go.Sort
set_option linter.unusedVariables false

def openR (l : List TS) : List Int := if asked l then openL l else []

theorem asked_all {l : List TS} (h : asked l = true) : l.all tsOK = true := by
  simp only [asked, Bool.and_eq_true] at h; exact goodL_all h.1
theorem asked_len {l : List TS} (h : asked l = true) : l.length ≤ 24 := by
  simp only [asked, Bool.and_eq_true] at h; exact goodL_len h.1

theorem specOpenAfter_any (A : Option Addr) (n c : Nat) (l : List TS) (w : World) (ha : Rd tsV 2 w A n c l) :
    Calls Try.prog 20 #[.slice A n c] w fun e w' => (∃ B q d, e = .returned (.tuple #[.slice B q d, .bool (asked l)]) ∧ Own inV 1 w' w.heap.size 3 B q d (openR l)) ∧ Below w.heap.size w w' := by
  cases h1 : asked l
  · have E1 := Lib.hid (show openR l = [] by simp [openR, h1])
    go_enter Try.func20, Try.ntmps20
    go_wp2_with fail
    refine (l23Asked_any _ _ _ _ _ ha).mono ?_
    rintro e w3 ⟨rfl, rfl⟩
    go_wp2
    go_ret2
    exact ⟨⟨_, _, _, rfl, by rw [E1.out]; exact Own.empty _ _ _ _⟩, below_alloc _⟩
  · have E1 := Lib.hid (show openR l = openL l by simp [openR, h1])
    have hall := Lib.hid (asked_all h1)
    have hn : n ≤ 24 := by rw [← ha.len]; exact asked_len h1
    go_enter Try.func20, Try.ntmps20
    go_wp2_with fail
    refine (l23Asked_any _ _ _ _ _ ha).mono ?_
    rintro e w3 ⟨rfl, rfl⟩
    go_wp2_with fail
    refine (l23Open_any _ _ _ _ _ ha hall.out (by omega)).mono ?_
    rintro e w3 ⟨⟨B, q, d, rfl, o1⟩, b1⟩
    go_wp2
    go_ret2
    exact ⟨⟨_, _, _, rfl, by rw [E1.out]; exact o1⟩, b1⟩

theorem implOpenAfter_any (A : Option Addr) (n c : Nat) (l : List TS) (w : World) (ha : Rd tsV 2 w A n c l) :
    Calls Try.prog 19 #[.slice A n c] w fun e w' => (∃ B q d, e = .returned (.tuple #[.slice B q d, .bool (asked l)]) ∧ Own inV 1 w' w.heap.size 3 B q d (openR l)) ∧ Below w.heap.size w w' := by
  cases h1 : asked l
  · have E1 := Lib.hid (show openR l = [] by simp [openR, h1])
    go_enter Try.func19, Try.ntmps19
    go_wp2_with fail
    refine (areOrderly_any _ _ _ _ _ ha).mono ?_
    rintro e w3 ⟨rfl, b3⟩
    go_wp2
    go_ret2
    exact ⟨⟨_, _, _, rfl, by rw [E1.out]; exact Own.nil _ _ _⟩, b3⟩
  · have E1 := Lib.hid (show openR l = openL l by simp [openR, h1])
    have hn : n ≤ 24 := by rw [← ha.len]; exact asked_len h1
    go_enter Try.func19, Try.ntmps19
    go_wp2_with fail
    refine (areOrderly_any _ _ _ _ _ ha).mono ?_
    rintro e w3 ⟨rfl, b3⟩
    go_wp2_with fail
    refine (openAfter_any _ _ _ _ _ (ha.below b3) (by omega)).mono ?_
    rintro e w4 ⟨⟨B, q, d, rfl, o1⟩, b1⟩
    go_wp2
    go_ret2
    exact ⟨⟨_, _, _, rfl, by rw [E1.out]; exact o1.base_le b3.size⟩, below_trans b3 b1⟩

/-! ### OutcomeCounts -/
def cntK (l : List TS) (k : Int) : Int := ((l.filter fun s => s.k == k).length : Int)
theorem cntK_bd (l : List TS) (k : Int) : 0 ≤ cntK l k ∧ cntK l k ≤ l.length := by
  unfold cntK
  have := List.length_filter_le (fun s : TS => s.k == k) l
  omega
theorem cntK_snoc {l : List TS} {j : Nat} {s : TS} (hs : l[j]? = some s) (k : Int) : cntK (l.take (j + 1)) k = cntK (l.take j) k + (if s.k == k then 1 else 0) := by
  unfold cntK
  rw [List.take_add_one, hs, List.filter_append]
  cases h : s.k == k <;> simp [h]
/-- The numbers of steps of the kinds 5, 6, 7, and a last one. -/
def cnts (l : List TS) (z : Int) : List Int := [cntK l 5, cntK l 6, cntK l 7, z]
def outR (l : List TS) : List Int := if asked l then cnts l ((openL l).length : Int) else []
theorem cnts_no {l : List TS} {j : Nat} {s : TS} (hs : l[j]? = some s) (h : s.k < 5) (z : Int) : cnts (l.take (j + 1)) z = cnts (l.take j) z := by
  have e5 : (s.k == 5) = false := by simp; omega
  have e6 : (s.k == 6) = false := by simp; omega
  have e7 : (s.k == 7) = false := by simp; omega
  simp [cnts, cntK_snoc hs, e5, e6, e7]
theorem cnts_yes {l : List TS} {j : Nat} {s : TS} (hs : l[j]? = some s) (h : 5 ≤ s.k) (h7 : s.k ≤ 7) (z : Int) :
    ∃ y, (cnts (l.take j) z)[(s.k - 5).toNat]? = some y ∧ 0 ≤ y ∧ y ≤ j ∧ cnts (l.take (j + 1)) z = (cnts (l.take j) z).set (s.k - 5).toNat (y + 1) := by
  have hc := fun k => cntK_bd (l.take j) k
  have hl : (l.take j).length ≤ j := List.length_take_le _ _
  have h3 : s.k = 5 ∨ s.k = 6 ∨ s.k = 7 := by omega
  rcases h3 with e | e | e
  · have e5 : (s.k == 5) = true := by simp [e]
    have e6 : (s.k == 6) = false := by simp [e]
    have e7 : (s.k == 7) = false := by simp [e]
    exact ⟨cntK (l.take j) 5, by rw [e]; rfl, (hc 5).1, by have := (hc 5).2; omega, by rw [cnts, cntK_snoc hs, cntK_snoc hs, cntK_snoc hs, e5, e6, e7, e]; simp [cnts]⟩
  · have e5 : (s.k == 5) = false := by simp [e]
    have e6 : (s.k == 6) = true := by simp [e]
    have e7 : (s.k == 7) = false := by simp [e]
    exact ⟨cntK (l.take j) 6, by rw [e]; rfl, (hc 6).1, by have := (hc 6).2; omega, by rw [cnts, cntK_snoc hs, cntK_snoc hs, cntK_snoc hs, e5, e6, e7, e]; simp [cnts]⟩
  · have e5 : (s.k == 5) = false := by simp [e]
    have e6 : (s.k == 6) = false := by simp [e]
    have e7 : (s.k == 7) = true := by simp [e]
    exact ⟨cntK (l.take j) 7, by rw [e]; rfl, (hc 7).1, by have := (hc 7).2; omega, by rw [cnts, cntK_snoc hs, cntK_snoc hs, cntK_snoc hs, e5, e6, e7, e]; simp [cnts]⟩

set_option maxRecDepth 100000 in
set_option maxHeartbeats 4000000 in
theorem specOutcomeCounts_any (A : Option Addr) (n c : Nat) (l : List TS) (w : World) (ha : Rd tsV 2 w A n c l) :
    Calls Try.prog 17 #[.slice A n c] w fun e w' => (∃ B q d, e = .returned (.tuple #[.slice B q d, .bool (asked l)]) ∧ Own inV 1 w' w.heap.size 3 B q d (outR l)) ∧ Below w.heap.size w w' := by
  cases h1 : asked l
  · have E1 := Lib.hid (show outR l = [] by simp [outR, h1])
    go_enter Try.func17, Try.ntmps17
    go_wp2_with fail
    refine (l23Asked_any _ _ _ _ _ ha).mono ?_
    rintro e w3 ⟨rfl, rfl⟩
    go_wp2
    go_ret2
    exact ⟨⟨_, _, _, rfl, by rw [E1.out]; exact Own.empty _ _ _ _⟩, below_alloc _⟩
  · have E1 := Lib.hid (show outR l = cnts l ((openL l).length : Int) by simp [outR, h1])
    have hall := Lib.hid (asked_all h1)
    have hn : n ≤ 24 := by rw [← ha.len]; exact asked_len h1
    have HL := Lib.hid ha.len
    obtain ⟨i0, hi, hz0, hz1, hz2⟩ := info_parts Try.infoIn
    go_enter Try.func17, Try.ntmps17
    go_wp2_with fail
    refine (l23Asked_any _ _ _ _ _ ha).mono ?_
    rintro e w3 ⟨rfl, rfl⟩
    have t1 : Below w.heap.size w w := Below.refl _ _
    have hax := ha.below t1
    go_wp2_with (at_make; refine wpList_make_full _ rfl _ _ _ rfl w.heap.size 3 i0 (.int .i64 0) 1 Try.underlying37 hi hz0 hz1 .i64 .i64 _ _ 4 rfl rfl rfl rfl (by rw [hz2]; omega) (by simp only [maxLen]; omega) (Nat.le_refl _) ?_; intro w1 hown hg1)
    have ho : Own inV 1 w1 w.heap.size 3 (some ⟨w.heap.size, 0, none⟩) 4 4 (cnts (l.take 0) 0) := ⟨rfl, by
      have e := made_flat (z := (Value.cells (.int .i64 0))) inV_len (by omega) (0 : Int) rfl 4
      rw [show (4 * 1 : Nat) = 4 from rfl] at e hown
      rw [e] at hown
      exact hown⟩
    have hb1 : Below w.heap.size w w1 := below_trans t1 (below_of_grown hg1 (Nat.le_refl _) (fun k hk => by cases hk))
    clear hown hg1
    go_loopw [5, 6] (fun i _ wr => ∃ k : Nat, k ≤ n ∧ i = .int .i64 k ∧ Own inV 1 wr w.heap.size 3 (some ⟨w.heap.size, 0, none⟩) 4 4 (cnts (l.take k) 0) ∧ Below w.heap.size w wr) (fun i _ _ => n - (intOf i).toNat)
    case atStart => exact ⟨0, Nat.zero_le _, rfl, ho, hb1⟩
    case round =>
      clear ho hb1
      obtain ⟨k, hk, rfl, ho, hbw⟩ := hrel
      have hsr := hbw.size
      by_cases hlt : k < n
      · obtain ⟨b1, o1, s, rfl, hs, c0, c1⟩ := (ha.below hbw).ts hlt
        have hk7 : s.k ≤ 7 ∧ 1 ≤ s.k := by
          have h1 := List.all_eq_true.1 hall.out s (List.mem_of_getElem? hs)
          simp [tsOK, inB] at h1
          omega
        obtain ⟨hk7, hk1⟩ := hk7
        by_cases h5 : 5 ≤ s.k
        · obtain ⟨y, hy, hy0, hyk, he⟩ := cnts_yes hs h5 hk7 0
          have q0 := ho.cell inV_len (j := 0) hy rfl
          have f0 := ho.frozen ((s.k - 5).toNat * 1 + 0)
          have hst := (ho.store inV_len (j := 0) hy (by omega) (y + 1) (.int .i64 (y + 1)) rfl).1
          simp only [Nat.add_zero, Nat.mul_one] at q0 f0 hst
          have HST := Lib.hid hst
          have HE := Lib.hid he
          have hbs := below_setCell hbw w.heap.size (s.k - 5).toNat (.int .i64 (y + 1)) t1.size
          clear hst he hy hs ha hax
          go_wp2
          go_roundw
          case rel => exact ⟨k + 1, by omega, by go_num, by rw [HE.out]; exact HST.out, hbs⟩
          case measure => simp [intOf]; omega
        · have HE := Lib.hid (cnts_no hs (by omega) 0)
          clear hs ha hax
          go_wp2
          go_roundw
          case rel => exact ⟨k + 1, by omega, by go_num, by rw [HE.out]; exact ho, hbw⟩
          case measure => simp [intOf]; omega
      · obtain rfl : k = n := by omega
        have e : l.take k = l := List.take_of_length_le (by rw [HL.out]; exact Nat.le_refl _)
        rw [e] at ho
        clear e
        have hcz : (cnts l 0)[3]? = some 0 := rfl
        have HCZ := Lib.hid hcz
        have hset : (cnts l 0).set 3 ((openL l).length : Int) = cnts l ((openL l).length : Int) := rfl
        have HSET := Lib.hid hset
        clear hcz hset hi hz0 hz1 hz2
        go_wp2_with fail
        refine (l23Open_any _ _ _ _ _ (ha.below hbw) hall.out (by omega)).mono ?_
        rintro e w4 ⟨⟨B, q, d, rfl, o4⟩, b4⟩
        have ho4 := ho.below b4
        have q0 := ho4.cell inV_len (j := 0) HCZ.out rfl
        have f0 := ho4.frozen (3 * 1 + 0)
        have hst := (ho4.store inV_len (j := 0) HCZ.out (by omega) ((openL l).length : Int) (.int .i64 ((openL l).length : Int)) rfl).1
        simp only [Nat.add_zero, Nat.mul_one] at q0 f0 hst
        rw [HSET.out] at hst
        have hq : (openL l).length = q := o4.len
        rw [hq] at hst E1
        have hb5 := below_setCell (below_trans hbw b4) w.heap.size 3 (.int .i64 (q : Int)) t1.size
        have HST := Lib.hid (hst.base_le t1.size)
        clear hst o4 hq ho ho4 ha hax
        go_wp2
        go_ret2
        exact ⟨⟨_, _, _, rfl, by rw [E1.out]; exact HST.out⟩, hb5⟩

set_option maxRecDepth 100000 in
set_option maxHeartbeats 4000000 in
theorem implOutcomeCounts_any (A : Option Addr) (n c : Nat) (l : List TS) (w : World) (ha : Rd tsV 2 w A n c l) :
    Calls Try.prog 16 #[.slice A n c] w fun e w' => (∃ B q d, e = .returned (.tuple #[.slice B q d, .bool (asked l)]) ∧ Own inV 1 w' w.heap.size 3 B q d (outR l)) ∧ Below w.heap.size w w' := by
  cases h1 : asked l
  · have E1 := Lib.hid (show outR l = [] by simp [outR, h1])
    go_enter Try.func16, Try.ntmps16
    go_wp2_with fail
    refine (areOrderly_any _ _ _ _ _ ha).mono ?_
    rintro e w3 ⟨rfl, b1⟩
    go_wp2
    go_ret2
    exact ⟨⟨_, _, _, rfl, by rw [E1.out]; exact Own.nil _ _ _⟩, b1⟩
  · have E1 := Lib.hid (show outR l = cnts l ((openL l).length : Int) by simp [outR, h1])
    have hall := Lib.hid (asked_all h1)
    have hn : n ≤ 24 := by rw [← ha.len]; exact asked_len h1
    have HL := Lib.hid ha.len
    obtain ⟨i0, hi, hz0, hz1, hz2⟩ := info_parts Try.infoIn
    go_enter Try.func16, Try.ntmps16
    go_wp2_with fail
    refine (areOrderly_any _ _ _ _ _ ha).mono ?_
    rintro e w3 ⟨rfl, b1⟩
    have t1 : Below w.heap.size w w3 := b1
    have hax := ha.below t1
    go_wp2_with (at_make; refine wpList_make_full _ rfl _ _ _ rfl w3.heap.size 3 i0 (.int .i64 0) 1 Try.underlying37 hi hz0 hz1 .i64 .i64 _ _ 4 rfl rfl rfl rfl (by rw [hz2]; omega) (by simp only [maxLen]; omega) (Nat.le_refl _) ?_; intro w1 hown hg1)
    have ho : Own inV 1 w1 w3.heap.size 3 (some ⟨w3.heap.size, 0, none⟩) 4 4 (cnts (l.take 0) 0) := ⟨rfl, by
      have e := made_flat (z := (Value.cells (.int .i64 0))) inV_len (by omega) (0 : Int) rfl 4
      rw [show (4 * 1 : Nat) = 4 from rfl] at e hown
      rw [e] at hown
      exact hown⟩
    have hb1 : Below w.heap.size w w1 := below_trans t1 (below_of_grown hg1 (Nat.le_refl _) (fun k hk => by cases hk))
    clear hown hg1
    go_loopw [6, 13] (fun _ i wr => ∃ k : Nat, k ≤ n ∧ i = .int .i64 k ∧ Own inV 1 wr w3.heap.size 3 (some ⟨w3.heap.size, 0, none⟩) 4 4 (cnts (l.take k) 0) ∧ Below w.heap.size w wr) (fun _ i _ => n - (intOf i).toNat)
    case atStart => exact ⟨0, Nat.zero_le _, rfl, ho, hb1⟩
    case round =>
      clear ho hb1
      obtain ⟨k, hk, rfl, ho, hbw⟩ := hrel
      have hsr := hbw.size
      by_cases hlt : k < n
      · obtain ⟨b1, o1, s, rfl, hs, c0, c1⟩ := (ha.below hbw).ts hlt
        have hk7 : s.k ≤ 7 ∧ 1 ≤ s.k := by
          have h1 := List.all_eq_true.1 hall.out s (List.mem_of_getElem? hs)
          simp [tsOK, inB] at h1
          omega
        obtain ⟨hk7, hk1⟩ := hk7
        by_cases h5 : 5 ≤ s.k
        · obtain ⟨y, hy, hy0, hyk, he⟩ := cnts_yes hs h5 hk7 0
          have q0 := ho.cell inV_len (j := 0) hy rfl
          have f0 := ho.frozen ((s.k - 5).toNat * 1 + 0)
          have hst := (ho.store inV_len (j := 0) hy (by omega) (y + 1) (.int .i64 (y + 1)) rfl).1
          simp only [Nat.add_zero, Nat.mul_one] at q0 f0 hst
          have hlt2 : w3.heap.size < wr.heap.size := (ho.lt rfl).2
          have HST := Lib.hid hst
          have HE := Lib.hid he
          have hbs := below_setCell hbw w3.heap.size (s.k - 5).toNat (.int .i64 (y + 1)) t1.size
          clear hst he hy hs ha hax
          go_wp2
          go_roundw
          case rel => exact ⟨k + 1, by omega, by go_num, by rw [HE.out]; exact HST.out.alloc _, below_trans hbs (below_alloc _)⟩
          case measure => simp [intOf]; omega
        · have HE := Lib.hid (cnts_no hs (by omega) 0)
          clear hs ha hax
          go_wp2
          go_roundw
          case rel => exact ⟨k + 1, by omega, by go_num, by rw [HE.out]; exact ho.alloc _, below_trans hbw (below_alloc _)⟩
          case measure => simp [intOf]; omega
      · obtain rfl : k = n := by omega
        have e : l.take k = l := List.take_of_length_le (by rw [HL.out]; exact Nat.le_refl _)
        rw [e] at ho
        clear e
        have hcz : (cnts l 0)[3]? = some 0 := rfl
        have HCZ := Lib.hid hcz
        have hset : (cnts l 0).set 3 ((openL l).length : Int) = cnts l ((openL l).length : Int) := rfl
        have HSET := Lib.hid hset
        clear hcz hset hi hz0 hz1 hz2
        go_wp2_with fail
        refine (openAfter_any _ _ _ _ _ (ha.below hbw) (by omega)).mono ?_
        rintro e w4 ⟨⟨B, q, d, rfl, o4⟩, b4⟩
        have ho4 := ho.below b4
        have q0 := ho4.cell inV_len (j := 0) HCZ.out rfl
        have f0 := ho4.frozen (3 * 1 + 0)
        have hst := (ho4.store inV_len (j := 0) HCZ.out (by omega) ((openL l).length : Int) (.int .i64 ((openL l).length : Int)) rfl).1
        simp only [Nat.add_zero, Nat.mul_one] at q0 f0 hst
        rw [HSET.out] at hst
        have hq : (openL l).length = q := o4.len
        rw [hq] at hst E1
        have hb5 := below_setCell (below_trans hbw b4) w3.heap.size 3 (.int .i64 (q : Int)) t1.size
        have HST := Lib.hid (hst.base_le t1.size)
        clear hst o4 hq ho ho4 ha hax
        go_wp2
        go_ret2
        exact ⟨⟨_, _, _, rfl, by rw [E1.out]; exact HST.out⟩, hb5⟩

theorem openR_len (l : List TS) : (openR l).length ≤ 1048577 := by
  unfold openR
  split
  · exact Nat.le_trans (openTo_len l 20) (by omega)
  · simp
theorem outR_len (l : List TS) : (outR l).length ≤ 1048577 := by
  unfold outR
  split <;> simp [cnts]

end Go.Proofs.Ytmmogpbbehgkiaa
