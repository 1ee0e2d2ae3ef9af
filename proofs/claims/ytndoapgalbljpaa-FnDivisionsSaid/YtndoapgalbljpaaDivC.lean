/-
  YtndoapgalbljpaaDivC: clauses: the dependents of a clause, DependentsOf and DearestClause, both sides. (Printed by wip/gen/divc.py.)
-/
import Derived.Test.YtndoapgalbljpaaDivB
namespace Go.Proofs.Ytndoapgalbljpaa
open Go Go.RowKit Go.Sort
set_option linter.unusedVariables false

theorem chP_len_le {k n : Nat} {p : Nat → Bool} (h : k ≤ n) : (chP k p).length ≤ n := Nat.le_trans (chP_len k p) h
theorem putZ_end {x : Int} : ∀ {l : List Int}, (∀ y ∈ l, y < x) → putZ x l = l ++ [x]
  | [], _ => rfl
  | y :: t, h => by
    unfold putZ
    rw [if_pos (h y (by simp)), putZ_end (fun z hz => h z (by simp [hz]))]; rfl
theorem putZ_there {x : Int} : ∀ {l : List Int}, (∀ y ∈ l, y < x) → putZ x (l ++ [x]) = l ++ [x]
  | [], _ => by simp [putZ]
  | y :: t, h => by
    rw [List.cons_append]
    unfold putZ
    rw [if_pos (h y (by simp)), putZ_there (fun z hz => h z (by simp [hz]))]


set_option maxRecDepth 100000 in
set_option maxHeartbeats 2000000 in
theorem dependentsOf_any (A : Option Addr) (n c : Nat) (hs : List HC) (l : List CL) (i : Nat) (w : World) (ha : RdC w A n c hs l) (hv : clsB l = true) (hi : i < l.length) :
    Calls Try.prog 48 #[.slice A n c, .int .i64 (i : Int)] w fun e w' => (∃ B q d, e = .returned (.slice B q d) ∧ Own inV 1 w' w.heap.size 3 B q d (depL l i)) ∧ Below w.heap.size w w' := by
  obtain ⟨i0, hii, hz0, hz1, hz2⟩ := info_parts Try.infoin
  have hL := ha.len
  have h8 := cls_len hv
  have hn8 : n ≤ 8 := by omega
  have hin : i < n := by omega
  have HL := Lib.hid hL
  have HV := Lib.hid hv
  have oe := Own.empty inV 1 w 3
  clear hL hv hi h8
  go_enter Try.func48, Try.ntmps48
  go_wp2
  go_loopw [5, 10] (fun v kv wr => ∃ k : Nat, k ≤ n ∧ kv = .int .i64 k ∧ (∃ B q d, v = .slice B q d ∧ q ≤ k ∧ Own inV 1 wr w.heap.size 3 B q d (chP k (fun k => depB l k i))) ∧ Below w.heap.size w wr) (fun _ kv _ => n - (intOf kv).toNat)
  case atStart => exact ⟨0, Nat.zero_le _, rfl, ⟨_, 0, 0, rfl, Nat.le_refl _, oe⟩, below_alloc _⟩
  case round =>
    clear oe
    obtain ⟨k, hk, rfl, ⟨B, q, d, rfl, hq, ho⟩, hbw⟩ := hrel
    by_cases hlt : k < n
    · have HO := Lib.hid ho
      have hkl : k < l.length := by rw [HL.out]; exact hlt
      have NX := Lib.hid (chP_succ k (fun k => depB l k i))
      have dg := Lib.hid (dpB_get (l := l) (k := k) (i := i) (by rw [HL.out]; exact hin))
      clear ho
      go_wp2_with fail
      refine (dependsOn_any _ _ _ _ l k _ (ha.below hbw) HV.out hkl).mono ?_
      rintro e w2 ⟨⟨B2, d2, rfl, o2⟩, b2⟩
      obtain ⟨g2, rfl⟩ := o2.form (by omega)
      have cb := o2.cell boV_len (i := i) (j := 0) dg.out rfl
      simp only [Nat.mul_one, Nat.add_zero] at cb
      have t2 := below_trans hbw b2
      have HO2 := Lib.hid (HO.out.below b2)
      clear o2 ha hkl
      cases hd : depB l k i
      · have E := Lib.hid (show chP (k + 1) (fun k => depB l k i) = chP k (fun k => depB l k i) by rw [NX.out, hd]; simp)
        rw [hd] at cb
        go_wp2
        go_roundw
        case rel => exact ⟨k + 1, by omega, by go_num, ⟨B, q, d, rfl, by omega, by rw [E.out]; exact HO2.out⟩, t2⟩
        case measure => first | (simp [intOf]; done) | (simp [intOf]; omega)
      · have E := Lib.hid (show chP (k + 1) (fun k => depB l k i) = chP k (fun k => depB l k i) ++ [(k : Int)] by rw [NX.out, hd]; simp)
        rw [hd] at cb
        clear hd
        go_wp2_with (at_builtin; refine wpList_push rfl _ _ _ rfl w.heap.size 3 i0 (.int .i64 0) 1 8 Try.underlying38 hii hz0 hz1 hz2 rfl (by omega) inV inV_len one_int2 B q d _ rfl HO2.out (k : Int) _ rfl _ rfl (by first | rfl | simp) (by simp only [maxLen]; omega) (by omega) t2.size ?_; intro B3 d3 w3 ho3 hg3)
        go_roundw
        case rel => exact ⟨k + 1, by omega, by go_num, ⟨B3, q + 1, d3, rfl, by omega, by rw [E.out]; exact ho3⟩, below_push t2 HO2.out hg3 (Nat.le_refl _)⟩
        case measure => first | (simp [intOf]; done) | (simp [intOf]; omega)
    · obtain rfl : k = n := by omega
      have E := Lib.hid (show depL l i = chP k (fun k => depB l k i) by unfold depL; rw [HL.out])
      have HO := Lib.hid ho
      clear ha ho
      go_wp2
      go_ret
      exact ⟨⟨_, _, _, rfl, by rw [E.out]; exact HO.out⟩, hbw⟩


/-- Whether one of the first j needs is the clause or depends on it. -/
noncomputable def hitTo (l : List CL) (i : Nat) (ns : List Int) (j : Nat) : Bool := (ns.take j).any (fun y => decide (0 ≤ y) && (decide (y = (i : Int)) || depB l y.toNat i))
theorem hitTo_next {l : List CL} {i : Nat} {ns : List Int} {j : Nat} {y : Int} (h : ns[j]? = some y) : hitTo l i ns (j + 1) = (hitTo l i ns j || (decide (0 ≤ y) && (decide (y = (i : Int)) || depB l y.toNat i))) := by
  unfold hitTo; rw [List.take_add_one, h, List.any_append]; simp
/-- What is collected before the j-th need of the clause k is looked at. -/
noncomputable def colTo (l : List CL) (i k : Nat) (ns : List Int) (j : Nat) : List Int := chP k (fun k => depB l k i) ++ if hitTo l i ns j then [(k : Int)] else []
theorem chP_lt {n : Nat} {p : Nat → Bool} : ∀ y ∈ chP n p, y < (n : Int) := fun y hy => (mem_chP.1 hy).2.1
theorem col_hit {l : List CL} {i k : Nat} {ns : List Int} {j : Nat} {y : Int} (h : ns[j]? = some y) (hy : (decide (0 ≤ y) && (decide (y = (i : Int)) || depB l y.toNat i)) = true) : colTo l i k ns (j + 1) = putZ k (colTo l i k ns j) := by
  unfold colTo
  rw [hitTo_next h, hy, Bool.or_true, if_pos rfl]
  cases hh : hitTo l i ns j
  · simp; exact (putZ_end chP_lt).symm
  · simp; exact (putZ_there chP_lt).symm
theorem col_no {l : List CL} {i k : Nat} {ns : List Int} {j : Nat} {y : Int} (h : ns[j]? = some y) (hy : (decide (0 ≤ y) && (decide (y = (i : Int)) || depB l y.toNat i)) = false) : colTo l i k ns (j + 1) = colTo l i k ns j := by
  unfold colTo
  rw [hitTo_next h, hy, Bool.or_false]
theorem col_has {l : List CL} {i k : Nat} {ns : List Int} {j : Nat} {y : Int} (h0 : 0 ≤ y) (h1 : y < (k : Int)) : (colTo l i k ns j).contains y = depB l y.toNat i := by
  unfold colTo
  have h := has_chP (n := k) (p := fun k => depB l k i) h0 h1
  rw [← h]
  rw [Bool.eq_iff_iff, List.contains_iff_mem, List.contains_iff_mem, List.mem_append]
  constructor
  · rintro (h2 | h2)
    · exact h2
    · split at h2
      · simp at h2; omega
      · simp at h2
  · exact .inl
theorem col_end {l : List CL} {i k : Nat} {x : CL} (hx : l[k]? = some x) {q : Nat} (hq : x.ns.length = q) : colTo l i k x.ns q = chP (k + 1) (fun k => depB l k i) := by
  unfold colTo
  rw [chP_succ]
  have : hitTo l i x.ns q = depB l k i := by
    unfold hitTo
    rw [List.take_of_length_le (by omega), depB_any, nd_of hx]
  rw [this]
theorem col_start (l : List CL) (i k : Nat) (ns : List Int) : colTo l i k ns 0 = chP k (fun k => depB l k i) := by simp [colTo, hitTo]
theorem col_len (l : List CL) (i k : Nat) (ns : List Int) (j : Nat) : (colTo l i k ns j).length ≤ k + 1 := by
  unfold colTo
  have := chP_len k (fun k => depB l k i)
  split <;> simp <;> omega

set_option maxRecDepth 100000 in
set_option maxHeartbeats 2000000 in
theorem l19Dependents_any (A : Option Addr) (n c : Nat) (hs : List HC) (l : List CL) (i : Nat) (w : World) (ha : RdC w A n c hs l) (hv : clsB l = true) (hi : i < l.length) :
    Calls Try.prog 55 #[.slice A n c, .int .i64 (i : Int)] w fun e w' => (∃ B q d, e = .returned (.slice B q d) ∧ Own inV 1 w' w.heap.size 3 B q d (depL l i)) ∧ Below w.heap.size w w' := by
  have hL := ha.len
  have h8 := cls_len hv
  have hn8 : n ≤ 8 := by omega
  have hin : i < n := by omega
  have HL := Lib.hid hL
  have HV := Lib.hid hv
  have oe := Own.empty inV 1 w 3
  have E0 := Lib.hid (show chP (i + 1) (fun k => depB l k i) = [] from chP_none (fun k hk => by
    cases hd : depB l k i
    · rfl
    · have := (depB_iff.1 hd).lt hv; omega))
  clear hL hv hi h8
  go_enter Try.func55, Try.ntmps55
  go_wp2
  go_loopw [5, 6] (fun v kv wr => ∃ (k : Nat) (z : Int), i + 1 ≤ k ∧ k ≤ n ∧ kv = .int .i64 z ∧ z = (k : Int) ∧ (∃ B q d, v = .slice B q d ∧ q ≤ k ∧ Own inV 1 wr w.heap.size 3 B q d (chP k (fun k => depB l k i))) ∧ Below w.heap.size w wr) (fun _ kv _ => n - (intOf kv).toNat)
  case atStart => exact ⟨i + 1, _, Nat.le_refl _, by omega, rfl, by omega, ⟨_, 0, 0, rfl, by omega, by rw [E0.out]; exact oe⟩, below_alloc _⟩
  case round =>
    clear oe E0
    obtain ⟨k, z, hki, hk, rfl, hz, ⟨B, q, d, rfl, hq, ho⟩, hbw⟩ := hrel
    obtain rfl : z = (k : Int) := hz
    by_cases hlt : k < n
    · obtain ⟨x, hx⟩ : ∃ x, l[k]? = some x := ⟨_, List.getElem?_eq_getElem (by rw [HL.out]; exact hlt)⟩
      have HX := Lib.hid hx
      have NB := Lib.hid (fun y (hy : y ∈ x.ns) => ns_bd HV.out hx hy)
      have HO := Lib.hid (show Own inV 1 wr w.heap.size 3 B q d (colTo l i k x.ns 0) by rw [col_start]; exact ho)
      clear hx ho
      go_wp2
      obtain ⟨wo, hwo⟩ : ∃ wo : World, wo = wr := ⟨_, rfl⟩
      subst hwo
      go_loopw [5, 7] (fun v jv wr => ∃ j : Nat, j ≤ x.ns.length ∧ jv = .int .i64 j ∧ (∃ B q d, v = .slice B q d ∧ Own inV 1 wr w.heap.size 3 B q d (colTo l i k x.ns j)) ∧ Below w.heap.size w wr) (fun _ jv _ => x.ns.length - (intOf jv).toNat)
      case atStart => exact ⟨0, Nat.zero_le _, rfl, ⟨B, q, d, rfl, HO.out⟩, hbw⟩
      case round =>
        clear hbw HO hq
        obtain ⟨j, hj, rfl, ⟨B, q, d, rfl, ho⟩, hbw⟩ := hrel
        obtain ⟨b1, o1, h, x', rfl, hx', -, c0, c1, x0, x1⟩ := (ha.below hbw).at hlt
        obtain rfl : x = x' := by have h5 := HX.out; rw [hx'] at h5; injection h5 with h5; exact h5.symm
        have HO := Lib.hid ho
        have hq : q ≤ k + 1 := by rw [← ho.len]; exact col_len _ _ _ _ _
        have LN := Lib.hid x1.len
        have hnm := x1.le
        have hsz := hbw.size
        have hl1 : x.ns.length ≤ h.nn := by rw [LN.out]; exact Nat.le_refl _
        have hl2 : h.nn ≤ x.ns.length := by rw [LN.out]; exact Nat.le_refl _
        clear hx' ho
        by_cases hjl : j < h.nn
        · obtain ⟨b2, o2, y, hAe, hy, d1⟩ := x1.in hjl
          have hyb := NB.out y (List.mem_of_getElem? hy)
          obtain ⟨m, rfl⟩ := Int.eq_ofNat_of_zero_le hyb.1
          have hmk := hyb.2
          have HY := Lib.hid hy
          have HH := Lib.hid (col_has (l := l) (i := i) (k := k) (ns := x.ns) (j := j) hyb.1 hyb.2)
          rw [Int.toNat_natCast] at HH
          clear hy hyb x0 x1 ha
          rw [hAe] at c1
          clear hAe
          by_cases hmi : m = i
          · have hmi' : ((m : Int) == (i : Int)) = true := by rw [hmi]; simp
            have E := Lib.hid (col_hit (l := l) (i := i) (k := k) HY.out (by simp [hmi]))
            clear hmi
            go_wp2_with fail
            refine (l1Put_any _ _ _ w.heap.size _ _ _ HO.out (by omega) hsz).mono ?_
            rintro e w3 ⟨⟨B3, q3, d3, rfl, o3⟩, b3⟩
            have O3 := Lib.hid o3
            clear o3
            go_wp2
            go_roundw
            case rel => exact ⟨j + 1, by omega, by go_num, ⟨B3, q3, d3, rfl, by rw [E.out]; exact O3.out⟩, below_trans hbw b3⟩
            case measure => first | (simp [intOf]; done) | (simp [intOf]; omega)
          · have hmi' : ((m : Int) == (i : Int)) = false := by simp; omega
            go_wp2_with fail
            refine (l1Has_any _ _ _ _ _ _ (HO.out.rd inV_len)).mono ?_
            rintro e w2 ⟨rfl, rfl⟩
            cases hd : depB l m i
            · have E := Lib.hid (col_no (l := l) (i := i) (k := k) HY.out (by rw [Int.toNat_natCast, hd]; simp; omega))
              have HF : (colTo l i k x.ns j).contains (m : Int) = false := by rw [HH.out, hd]
              rw [HF]
              clear HF hd hmi
              go_wp2
              go_roundw
              case rel => exact ⟨j + 1, by omega, by go_num, ⟨B, q, d, rfl, by rw [E.out]; exact HO.out⟩, hbw⟩
              case measure => first | (simp [intOf]; done) | (simp [intOf]; omega)
            · have E := Lib.hid (col_hit (l := l) (i := i) (k := k) HY.out (by rw [Int.toNat_natCast, hd]; simp))
              have HF : (colTo l i k x.ns j).contains (m : Int) = true := by rw [HH.out, hd]
              rw [HF]
              clear HF hd hmi
              go_wp2_with fail
              refine (l1Put_any _ _ _ w.heap.size _ _ _ HO.out (by omega) hsz).mono ?_
              rintro e w3 ⟨⟨B3, q3, d3, rfl, o3⟩, b3⟩
              have O3 := Lib.hid o3
              clear o3
              go_wp2
              go_roundw
              case rel => exact ⟨j + 1, by omega, by go_num, ⟨B3, q3, d3, rfl, by rw [E.out]; exact O3.out⟩, below_trans hbw b3⟩
              case measure => first | (simp [intOf]; done) | (simp [intOf]; omega)
        · have E := Lib.hid (col_end (i := i) HX.out (q := j) (by rw [LN.out]; omega))
          have hqk : q ≤ k + 1 := hq
          clear x0 x1 ha
          go_wp2
          go_roundw
          case rel => exact ⟨k + 1, _, by omega, by omega, rfl, by omega, ⟨B, q, d, rfl, hqk, by rw [← E.out]; exact HO.out⟩, hbw⟩
          case measure => first | (simp [intOf]; done) | (simp [intOf]; omega)
    · obtain rfl : k = n := by omega
      have E := Lib.hid (show depL l i = chP k (fun k => depB l k i) by unfold depL; rw [HL.out])
      have HO := Lib.hid ho
      clear ha ho
      go_wp2
      go_ret
      exact ⟨⟨_, _, _, rfl, by rw [E.out]; exact HO.out⟩, hbw⟩


end Go.Proofs.Ytndoapgalbljpaa
