/-
  YtndoapgalbljpaaDivD: clauses: DependentsOf and DearestClause, both sides. (Printed by wip/gen/divd.py.)
-/
import Derived.Test.YtndoapgalbljpaaDivC
namespace Go.Proofs.Ytndoapgalbljpaa
open Go Go.RowKit Go.Sort
set_option linter.unusedVariables false

def depOk (l : List CL) (i : Int) : Bool := clsB l && inB i 0 ((l.length : Int) - 1)
noncomputable def depR (l : List CL) (i : Int) : List Int := if depOk l i then depL l i.toNat else []
theorem depL_len (l : List CL) (i : Nat) : (depL l i).length ≤ l.length := chP_len _ _
theorem depR_len (l : List CL) (i : Int) : (depR l i).length ≤ l.length := by
  unfold depR; split
  · exact depL_len _ _
  · simp
theorem depR_no {l : List CL} {i : Int} (h : depOk l i = false) : depR l i = [] := by simp [depR, h]
theorem depR_yes {l : List CL} {i : Nat} (h : depOk l i = true) : depR l i = depL l i := by simp [depR, h]


set_option maxRecDepth 100000 in
set_option maxHeartbeats 1000000 in
theorem implDependents_any (A : Option Addr) (n c : Nat) (hs : List HC) (l : List CL) (i : Int) (w : World) (ha : RdC w A n c hs l) (hg : ∀ x ∈ l, ClSz x) :
    Calls Try.prog 17 #[.slice A n c, .int .i64 i] w fun e w' => (∃ B q d, e = .returned (.tuple #[.slice B q d, .bool (depOk l i)]) ∧ Own inV 1 w' w.heap.size 3 B q d (depR l i)) ∧ Below w.heap.size w w' := by
  have HL := Lib.hid ha.len
  have hm := ha.le
  go_enter Try.func17, Try.ntmps17
  go_wp2_with fail
  refine (AreClauses_any _ _ _ _ _ _ ha hg).mono ?_
  rintro e w1 ⟨rfl, b1⟩
  cases h1 : clsB l
  · have E := Lib.hid (show depOk l i = false by unfold depOk; rw [h1]; rfl)
    clear ha h1
    go_wp2
    go_ret2
    exact ⟨⟨_, _, _, ret_sl_bool' E.out.symm, by rw [depR_no E.out]; exact Own.nil _ _ _⟩, b1⟩
  have C1 := Lib.hid h1
  clear h1
  go_wp2_with fail
  refine (inside_any _ _ _ _).mono ?_
  rintro e w2 ⟨rfl, rfl⟩
  cases h2 : inB i 0 ((n : Int) - 1)
  · have E := Lib.hid (show depOk l i = false by unfold depOk; rw [HL.out, h2, Bool.and_false])
    clear ha h2
    go_wp2
    go_ret2
    exact ⟨⟨_, _, _, ret_sl_bool' E.out.symm, by rw [depR_no E.out]; exact Own.nil _ _ _⟩, b1⟩
  have hb := inB_iff.1 h2
  obtain ⟨j, rfl⟩ := Int.eq_ofNat_of_zero_le hb.1
  have E := Lib.hid (show depOk l (j : Int) = true by unfold depOk; rw [HL.out, h2, C1.out]; rfl)
  have hj : j < l.length := by rw [HL.out]; omega
  clear h2 hb
  go_wp2_with fail
  refine (dependentsOf_any _ _ _ _ l j _ (ha.below b1) C1.out hj).mono ?_
  rintro e w3 ⟨⟨B, q, d, rfl, o3⟩, b3⟩
  have O3 := Lib.hid o3
  clear ha o3
  go_wp2
  go_ret2
  exact ⟨⟨_, _, _, ret_sl_bool' E.out.symm, by rw [depR_yes E.out]; exact O3.out.base_le b1.size⟩, below_trans b1 b3⟩


set_option maxRecDepth 100000 in
set_option maxHeartbeats 1000000 in
theorem specDependents_any (A : Option Addr) (n c : Nat) (hs : List HC) (l : List CL) (i : Int) (w : World) (ha : RdC w A n c hs l) (hg : ∀ x ∈ l, ClSz x) :
    Calls Try.prog 28 #[.slice A n c, .int .i64 i] w fun e w' => (∃ B q d, e = .returned (.tuple #[.slice B q d, .bool (depOk l i)]) ∧ Own inV 1 w' w.heap.size 3 B q d (depR l i)) ∧ Below w.heap.size w w' := by
  have HL := Lib.hid ha.len
  have hm := ha.le
  go_enter Try.func28, Try.ntmps28
  go_wp2_with fail
  refine (l19Good_any _ _ _ _ _ _ ha hg).mono ?_
  rintro e w1 ⟨rfl, b1⟩
  cases h1 : clsB l
  · have E := Lib.hid (show depOk l i = false by unfold depOk; rw [h1]; rfl)
    clear ha h1
    go_wp2
    go_ret2
    exact ⟨⟨_, _, _, ret_sl_bool' E.out.symm, by rw [depR_no E.out]; exact (Own.empty _ _ _ _).base_le b1.size⟩, below_trans b1 (below_alloc _)⟩
  have C1 := Lib.hid h1
  clear h1
  go_wp2_with fail
  refine (l1In_any _ _ _ _).mono ?_
  rintro e w2 ⟨rfl, rfl⟩
  cases h2 : inB i 0 ((n : Int) - 1)
  · have E := Lib.hid (show depOk l i = false by unfold depOk; rw [HL.out, h2, Bool.and_false])
    clear ha h2
    go_wp2
    go_ret2
    exact ⟨⟨_, _, _, ret_sl_bool' E.out.symm, by rw [depR_no E.out]; exact (Own.empty _ _ _ _).base_le b1.size⟩, below_trans b1 (below_alloc _)⟩
  have hb := inB_iff.1 h2
  obtain ⟨j, rfl⟩ := Int.eq_ofNat_of_zero_le hb.1
  have E := Lib.hid (show depOk l (j : Int) = true by unfold depOk; rw [HL.out, h2, C1.out]; rfl)
  have hj : j < l.length := by rw [HL.out]; omega
  clear h2 hb
  go_wp2_with fail
  refine (l19Dependents_any _ _ _ _ l j _ (ha.below b1) C1.out hj).mono ?_
  rintro e w3 ⟨⟨B, q, d, rfl, o3⟩, b3⟩
  have O3 := Lib.hid o3
  clear ha o3
  go_wp2
  go_ret2
  exact ⟨⟨_, _, _, ret_sl_bool' E.out.symm, by rw [depR_yes E.out]; exact O3.out.base_le b1.size⟩, below_trans b1 b3⟩


/-- The dearest of the first k clauses and the number of its dependents. -/
noncomputable def dearTo (l : List CL) : Nat → Int × Int
  | 0 => (0, -1)
  | k + 1 => if ((depL l k).length : Int) > (dearTo l k).2 then ((k : Int), ((depL l k).length : Int)) else dearTo l k
theorem dear_bd (l : List CL) : ∀ k, -1 ≤ (dearTo l k).2 ∧ (dearTo l k).2 ≤ l.length
  | 0 => by simp [dearTo]
  | k + 1 => by
    have h := dear_bd l k
    have h2 := depL_len l k
    unfold dearTo
    split
    · simp only; omega
    · exact h
def dearOk (l : List CL) : Bool := clsB l && !decide (l.length = 0)
noncomputable def dearA (l : List CL) : Int := if dearOk l then (dearTo l l.length).1 else 0
noncomputable def dearB (l : List CL) : Int := if dearOk l then (dearTo l l.length).2 else 0
theorem dear_no {l : List CL} (h : dearOk l = false) : dearA l = 0 ∧ dearB l = 0 := by simp [dearA, dearB, h]
theorem dear_yes {l : List CL} (h : dearOk l = true) : dearA l = (dearTo l l.length).1 ∧ dearB l = (dearTo l l.length).2 := by simp [dearA, dearB, h]


set_option maxRecDepth 100000 in
set_option maxHeartbeats 1000000 in
theorem implDearest_any (A : Option Addr) (n c : Nat) (hs : List HC) (l : List CL) (w : World) (ha : RdC w A n c hs l) (hg : ∀ x ∈ l, ClSz x) :
    Calls Try.prog 25 #[.slice A n c] w fun e w' => e = .returned (.tuple #[.int .i64 (dearA l), .int .i64 (dearB l), .bool (dearOk l)]) ∧ Below w.heap.size w w' := by
  have HL := Lib.hid ha.len
  have hm := ha.le
  go_enter Try.func25, Try.ntmps25
  go_wp2_with fail
  refine (AreClauses_any _ _ _ _ _ _ ha hg).mono ?_
  rintro e w1 ⟨rfl, b1⟩
  cases h1 : clsB l
  · have E := Lib.hid (show dearOk l = false by unfold dearOk; rw [h1]; rfl)
    clear ha h1
    go_wp2
    go_ret3
    exact ⟨ret_iib (dear_no E.out).1.symm (dear_no E.out).2.symm E.out.symm, b1⟩
  have C1 := Lib.hid h1
  clear h1
  by_cases h0 : n = 0
  · have h0' : ((n : Int) == 0) = true := by rw [h0]; rfl
    have E := Lib.hid (show dearOk l = false by unfold dearOk; rw [HL.out, h0]; simp)
    clear ha h0
    go_wp2
    go_ret3
    exact ⟨ret_iib (dear_no E.out).1.symm (dear_no E.out).2.symm E.out.symm, b1⟩
  have h0' : ((n : Int) == 0) = false := by simp; omega
  have E := Lib.hid (show dearOk l = true by unfold dearOk; rw [HL.out, C1.out, decide_eq_false h0]; rfl)
  have h8 : n ≤ 8 := by rw [← HL.out]; exact cls_len C1.out
  clear h0
  go_wp2
  go_loopw [5, 6, 19] (fun bv mv kv wr => ∃ k : Nat, k ≤ n ∧ kv = .int .i64 k ∧ bv = .int .i64 (dearTo l k).1 ∧ mv = .int .i64 (dearTo l k).2 ∧ Below w.heap.size w wr) (fun _ _ kv _ => n - (intOf kv).toNat)
  case atStart => exact ⟨0, Nat.zero_le _, rfl, rfl, rfl, b1⟩
  case round =>
    clear b1
    obtain ⟨k, hk, rfl, rfl, rfl, hbw⟩ := hrel
    have hd := dear_bd l k
    have hd1 := hd.1
    have hd2 : (dearTo l k).2 ≤ n := by rw [← HL.out]; exact hd.2
    clear hd
    by_cases hlt : k < n
    · have hkl : k < l.length := by rw [HL.out]; exact hlt
      go_wp2_with fail
      refine (dependentsOf_any _ _ _ _ l k _ (ha.below hbw) C1.out hkl).mono ?_
      rintro e w3 ⟨⟨B, q, d, rfl, o3⟩, b3⟩
      have QL := Lib.hid o3.len
      have hq : q ≤ n := by rw [← QL.out, ← HL.out]; exact depL_len _ _
      have t3 := below_trans hbw b3
      clear ha hkl o3
      by_cases hgt : (dearTo l k).2 < (q : Int)
      · have F : Hid (dearTo l (k + 1) = ((k : Int), (q : Int))) := by show _ = _; rw [dearTo, QL.out, if_pos hgt]
        go_wp2
        go_roundw
        case rel => exact ⟨k + 1, by omega, by go_num, by rw [F.out], by rw [F.out], t3⟩
        case measure => first | (simp [intOf]; done) | (simp [intOf]; omega)
      · have F : Hid (dearTo l (k + 1) = dearTo l k) := by show _ = _; rw [dearTo, QL.out, if_neg hgt]
        go_wp2
        go_roundw
        case rel => exact ⟨k + 1, by omega, by go_num, by rw [F.out], by rw [F.out], t3⟩
        case measure => first | (simp [intOf]; done) | (simp [intOf]; omega)
    · obtain rfl : k = n := by omega
      have F := Lib.hid (dear_yes E.out)
      clear ha
      go_wp2
      go_ret3
      exact ⟨ret_iib (by rw [F.out.1, HL.out]) (by rw [F.out.2, HL.out]) E.out.symm, hbw⟩


set_option maxRecDepth 100000 in
set_option maxHeartbeats 1000000 in
theorem specDearest_any (A : Option Addr) (n c : Nat) (hs : List HC) (l : List CL) (w : World) (ha : RdC w A n c hs l) (hg : ∀ x ∈ l, ClSz x) :
    Calls Try.prog 26 #[.slice A n c] w fun e w' => e = .returned (.tuple #[.int .i64 (dearA l), .int .i64 (dearB l), .bool (dearOk l)]) ∧ Below w.heap.size w w' := by
  have HL := Lib.hid ha.len
  have hm := ha.le
  go_enter Try.func26, Try.ntmps26
  go_wp2_with fail
  refine (l19Good_any _ _ _ _ _ _ ha hg).mono ?_
  rintro e w1 ⟨rfl, b1⟩
  cases h1 : clsB l
  · have E := Lib.hid (show dearOk l = false by unfold dearOk; rw [h1]; rfl)
    clear ha h1
    go_wp2
    go_ret3
    exact ⟨ret_iib (dear_no E.out).1.symm (dear_no E.out).2.symm E.out.symm, b1⟩
  have C1 := Lib.hid h1
  clear h1
  by_cases h0 : n = 0
  · have h0' : ((n : Int) == 0) = true := by rw [h0]; rfl
    have E := Lib.hid (show dearOk l = false by unfold dearOk; rw [HL.out, h0]; simp)
    clear ha h0
    go_wp2
    go_ret3
    exact ⟨ret_iib (dear_no E.out).1.symm (dear_no E.out).2.symm E.out.symm, b1⟩
  have h0' : ((n : Int) == 0) = false := by simp; omega
  have E := Lib.hid (show dearOk l = true by unfold dearOk; rw [HL.out, C1.out, decide_eq_false h0]; rfl)
  have h8 : n ≤ 8 := by rw [← HL.out]; exact cls_len C1.out
  clear h0
  go_wp2
  go_loopw [5, 6, 7] (fun bv mv kv wr => ∃ k : Nat, k ≤ n ∧ kv = .int .i64 k ∧ bv = .int .i64 (dearTo l k).1 ∧ mv = .int .i64 (dearTo l k).2 ∧ Below w.heap.size w wr) (fun _ _ kv _ => n - (intOf kv).toNat)
  case atStart => exact ⟨0, Nat.zero_le _, rfl, rfl, rfl, b1⟩
  case round =>
    clear b1
    obtain ⟨k, hk, rfl, rfl, rfl, hbw⟩ := hrel
    have hd := dear_bd l k
    have hd1 := hd.1
    have hd2 : (dearTo l k).2 ≤ n := by rw [← HL.out]; exact hd.2
    clear hd
    by_cases hlt : k < n
    · have hkl : k < l.length := by rw [HL.out]; exact hlt
      go_wp2_with fail
      refine (l19Dependents_any _ _ _ _ l k _ (ha.below hbw) C1.out hkl).mono ?_
      rintro e w3 ⟨⟨B, q, d, rfl, o3⟩, b3⟩
      have QL := Lib.hid o3.len
      have hq : q ≤ n := by rw [← QL.out, ← HL.out]; exact depL_len _ _
      have t3 := below_trans hbw b3
      clear ha hkl o3
      by_cases hgt : (dearTo l k).2 < (q : Int)
      · have F : Hid (dearTo l (k + 1) = ((k : Int), (q : Int))) := by show _ = _; rw [dearTo, QL.out, if_pos hgt]
        go_wp2
        go_roundw
        case rel => exact ⟨k + 1, by omega, by go_num, by rw [F.out], by rw [F.out], t3⟩
        case measure => first | (simp [intOf]; done) | (simp [intOf]; omega)
      · have F : Hid (dearTo l (k + 1) = dearTo l k) := by show _ = _; rw [dearTo, QL.out, if_neg hgt]
        go_wp2
        go_roundw
        case rel => exact ⟨k + 1, by omega, by go_num, by rw [F.out], by rw [F.out], t3⟩
        case measure => first | (simp [intOf]; done) | (simp [intOf]; omega)
    · obtain rfl : k = n := by omega
      have F := Lib.hid (dear_yes E.out)
      clear ha
      go_wp2
      go_ret3
      exact ⟨ret_iib (by rw [F.out.1, HL.out]) (by rw [F.out.2, HL.out]) E.out.symm, hbw⟩


end Go.Proofs.Ytndoapgalbljpaa
