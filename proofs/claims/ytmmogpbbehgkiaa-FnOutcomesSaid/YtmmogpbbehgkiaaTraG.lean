/-
  YtmmogpbbehgkiaaTraG: traces: the open motions: spec.l23Open, impl.openAfter, both OpenAfter.
-/
import Derived.Test.YtmmogpbbehgkiaaTraF
namespace Go.Proofs.Ytmmogpbbehgkiaa
open Go Go.RowKit Go.Sort
set_option linter.unusedVariables false

/-- The steps of a motion leave it open. -/
def isOpen (ks : List Int) : Bool := match ks.getLast? with | some k => decide (k < 5) | none => false
/-- The open ones among the motions 1 .. j. -/
def openTo (l : List TS) (j : Nat) : List Int := ((List.range j).map fun (t : Nat) => (t : Int) + 1).filter fun m => isOpen (kinds l m)
def openL (l : List TS) : List Int := openTo l 20
theorem openTo_yes {l : List TS} {j : Nat} (h : isOpen (kinds l ((j : Int) + 1)) = true) : openTo l (j + 1) = openTo l j ++ [(j : Int) + 1] := by
  unfold openTo; rw [List.range_succ, List.map_append, List.filter_append]; simp [h]
theorem openTo_no {l : List TS} {j : Nat} (h : isOpen (kinds l ((j : Int) + 1)) = false) : openTo l (j + 1) = openTo l j := by
  unfold openTo; rw [List.range_succ, List.map_append, List.filter_append]; simp [h]
theorem openTo_len (l : List TS) (j : Nat) : (openTo l j).length ≤ j := by
  unfold openTo
  exact Nat.le_trans (List.length_filter_le _ _) (by simp)
theorem isOpen_last {ks : List Int} {q : Nat} (hq : ks.length = q) (h0 : 0 < q) {x : Int} (hx : ks[q - 1]? = some x) : isOpen ks = decide (x < 5) := by
  unfold isOpen
  rw [List.getLast?_eq_getElem?, hq, hx]

set_option maxRecDepth 100000 in
set_option maxHeartbeats 4000000 in
theorem openAfter_any (A : Option Addr) (n c : Nat) (l : List TS) (w : World) (ha : Rd tsV 2 w A n c l) (hn : n ≤ 1048576) :
    Calls Try.prog 31 #[.slice A n c] w fun e w' => (∃ B q d, e = .returned (.slice B q d) ∧ Own inV 1 w' w.heap.size 3 B q d (openL l)) ∧ Below w.heap.size w w' := by
  have HL := Lib.hid ha.len
  obtain ⟨i0, hi, hz0, hz1, hz2⟩ := info_parts Try.infoIn
  have ho0 := Own.empty inV 1 w 3
  go_enter Try.func31, Try.ntmps31
  go_wp2
  go_loopw [3, 4, 5] (fun v i _ wr => ∃ j : Nat, j ≤ 20 ∧ i = .int .i64 ((j : Int) + 1) ∧ ∃ B q d, v = .slice B q d ∧ q ≤ j ∧ Own inV 1 wr w.heap.size 3 B q d (openTo l j) ∧ Below w.heap.size w wr) (fun _ i _ _ => 21 - (intOf i).toNat)
  case atStart => exact ⟨0, by omega, rfl, _, 0, 0, rfl, Nat.le_refl _, ho0, below_alloc _⟩
  case round =>
    clear ho0
    obtain ⟨j, hj, rfl, B, q, d, rfl, hq, ho, hbw⟩ := hrel
    by_cases hj20 : j < 20
    · have hin : inB ((j : Int) + 1) 1 20 = true := inB_t (by omega) (by omega)
      go_wp2_with fail
      refine (isMotion_any _ _).mono ?_
      rintro e w' ⟨rfl, rfl⟩
      go_wp2_with fail
      refine (kindsOf_any _ _ _ _ _ _ (ha.below hbw) hn).mono ?_
      rintro e w2 ⟨⟨B2, q2, d2, rfl, ho2⟩, hb2⟩
      have hbo := below_trans hbw hb2
      have hr := ho2.rd inV_len
      have how := ho.below hb2
      have HK := Lib.hid ho2.len
      have hq2 : q2 ≤ 1048576 := by rw [← ho2.len]; have := kinds_len l ((j : Int) + 1); have := HL.out; omega
      clear ho ho2 ha
      by_cases h0 : 0 < q2
      · obtain ⟨b1, o1, x, rfl, hs, c0⟩ := hr.in (i := q2 - 1) (by omega)
        have HX := Lib.hid (isOpen_last HK.out h0 hs)
        clear hs hr
        by_cases hx : x < 5
        · have E := Lib.hid (openTo_yes (l := l) (j := j) (by rw [HX.out]; simp [hx]))
          go_wp2_with (at_builtin; refine wpList_push rfl _ _ _ rfl w.heap.size 3 i0 (.int .i64 0) 1 8 Try.underlying37 hi hz0 hz1 hz2 rfl (by omega) inV inV_len one_in B q d _ rfl how ((j : Int) + 1) _ rfl _ rfl (by first | rfl | simp) (by simp only [maxLen]; omega) (by omega) hbo.size ?_; intro B3 d3 w3 ho3 hg3)
          go_roundw
          case rel => exact ⟨j + 1, by omega, by go_num, B3, q + 1, d3, rfl, by omega, by rw [E.out]; exact ho3, below_push hbo how hg3 (Nat.le_refl _)⟩
          case measure => simp [intOf]; omega
        · have E := Lib.hid (openTo_no (l := l) (j := j) (by rw [HX.out]; simp [hx]))
          go_wp2
          go_roundw
          case rel => exact ⟨j + 1, by omega, by go_num, B, q, d, rfl, by omega, by rw [E.out]; exact how, hbo⟩
          case measure => simp [intOf]; omega
      · obtain rfl : q2 = 0 := by omega
        have hnil : kinds l ((j : Int) + 1) = [] := List.eq_nil_of_length_eq_zero HK.out
        have E := Lib.hid (openTo_no (l := l) (j := j) (by rw [hnil]; rfl))
        clear hnil hr
        go_wp2
        go_roundw
        case rel => exact ⟨j + 1, by omega, by go_num, B, q, d, rfl, by omega, by rw [E.out]; exact how, hbo⟩
        case measure => simp [intOf]; omega
    · obtain rfl : j = 20 := by omega
      have hin : inB (((20 : Nat) : Int) + 1) 1 20 = false := inB_r (by omega)
      clear ha
      go_wp2_with (go_at_call 42; refine (isMotion_any _ _).mono ?_; rintro e w' ⟨rfl, rfl⟩)
      go_ret
      exact ⟨⟨_, _, _, rfl, ho⟩, hbw⟩

theorem toList_ne {p : ByteArray} (h : 0 < p.size) : p.toList.isEmpty = false := by
  cases he : p.toList.isEmpty
  · rfl
  · exfalso
    have h2 := (toList_nil_iff_emptyBytes p).1 (List.isEmpty_iff.1 he)
    subst h2
    simp at h
theorem path_empty {l : List TS} {m : Int} (h : kinds l m = []) : path l m = ⟨#[]⟩ := by unfold path; rw [h]; rfl
theorem endB_last {l : List TS} {m : Int} (hg : l.all tsOK = true) (h0 : 0 < (path l m).size) : ∀ h, endB (((path l m)[(path l m).size - 1]'h).toNat : Int) = !isOpen (kinds l m) := by
  intro h
  have hs : (path l m).size = (kinds l m).length := by
    show (((kinds l m).map letter).toArray).size = _
    simp
  have hk : (path l m).size - 1 < (kinds l m).length := by omega
  have hx : (kinds l m)[(path l m).size - 1]? = some (kinds l m)[(path l m).size - 1] := List.getElem?_eq_getElem hk
  obtain ⟨h1, h2⟩ := kinds_mem hg hx
  have e1 : (path l m)[(path l m).size - 1]'h = letter (kinds l m)[(path l m).size - 1] := by
    rw [← getD_byte h]
    show (((kinds l m).map letter).toArray.toList).getD _ 0 = _
    simp [List.getD, hx]
  rw [e1, isOpen_last hs.symm h0 hx]
  generalize (kinds l m)[(path l m).size - 1] = x at h1 h2
  have h : x = 1 ∨ x = 2 ∨ x = 3 ∨ x = 4 ∨ x = 5 ∨ x = 6 ∨ x = 7 := by omega
  rcases h with rfl | rfl | rfl | rfl | rfl | rfl | rfl <;> rfl

set_option maxRecDepth 100000 in
set_option maxHeartbeats 4000000 in
theorem l23Open_any (A : Option Addr) (n c : Nat) (l : List TS) (w : World) (ha : Rd tsV 2 w A n c l) (hg : l.all tsOK = true) (hn : n ≤ 1048576) :
    Calls Try.prog 27 #[.slice A n c] w fun e w' => (∃ B q d, e = .returned (.slice B q d) ∧ Own inV 1 w' w.heap.size 3 B q d (openL l)) ∧ Below w.heap.size w w' := by
  have HL := Lib.hid ha.len
  have HG := Lib.hid hg
  clear hg
  obtain ⟨i0, hi, hz0, hz1, hz2⟩ := info_parts Try.infoIn
  have ho0 := Own.empty inV 1 w 3
  go_enter Try.func27, Try.ntmps27
  go_wp2
  go_loopw [3, 4, 5] (fun v i _ wr => ∃ j : Nat, j ≤ 20 ∧ i = .int .i64 ((j : Int) + 1) ∧ ∃ B q d, v = .slice B q d ∧ q ≤ j ∧ Own inV 1 wr w.heap.size 3 B q d (openTo l j) ∧ Below w.heap.size w wr) (fun _ i _ _ => 21 - (intOf i).toNat)
  case atStart => exact ⟨0, by omega, rfl, _, 0, 0, rfl, Nat.le_refl _, ho0, below_alloc _⟩
  case round =>
    clear ho0
    obtain ⟨j, hj, rfl, B, q, d, rfl, hq, how, hbo⟩ := hrel
    by_cases hj20 : j < 20
    · have hps : (path l ((j : Int) + 1)).size ≤ 1048576 := by have := path_size l ((j : Int) + 1); rw [HL.out] at this; omega
      have hend := endB_last (m := (j : Int) + 1) HG.out
      have hsz : (path l ((j : Int) + 1)).size = (kinds l ((j : Int) + 1)).length := by
        show (((kinds l ((j : Int) + 1)).map letter).toArray).size = _
        simp
      have hemp := path_empty (l := l) (m := (j : Int) + 1)
      have HEMP := Lib.hid hemp
      have HSZ := Lib.hid hsz
      clear hemp hsz
      go_wp2_with fail
      refine (l23Path_any _ _ _ _ _ _ (ha.below hbo) HG.out hn).mono ?_
      rintro e w' ⟨rfl, rfl⟩
      obtain ⟨p, hp⟩ : ∃ p, p = path l ((j : Int) + 1) := ⟨_, rfl⟩
      rw [← hp] at hend hps ⊢
      rw [← hp] at HEMP HSZ
      clear ha
      by_cases h0 : 0 < p.size
      · have hend2 := hend h0
        have HP := Lib.hid hp
        have hne := toList_ne h0
        clear hend hp
        cases ho : isOpen (kinds l ((j : Int) + 1))
        · have E := Lib.hid (openTo_no (l := l) (j := j) ho)
          rw [ho] at hend2
          clear ho
          go_wp2_with (go_at_call 51; refine (l23Ended_any _ _).mono ?_; rintro e w' ⟨rfl, rfl⟩)
          go_roundw
          case rel => exact ⟨j + 1, by omega, by go_num, B, q, d, rfl, by omega, by rw [E.out]; exact how, hbo⟩
          case measure => simp [intOf]; omega
        · have E := Lib.hid (openTo_yes (l := l) (j := j) ho)
          rw [ho] at hend2
          clear ho
          go_wp2_with (first | (go_at_call 51; refine (l23Ended_any _ _).mono ?_; rintro e w' ⟨rfl, rfl⟩) | (at_builtin; refine wpList_push rfl _ _ _ rfl w.heap.size 3 i0 (.int .i64 0) 1 8 Try.underlying37 hi hz0 hz1 hz2 rfl (by omega) inV inV_len one_in B q d _ rfl how ((j : Int) + 1) _ rfl _ rfl (by first | rfl | simp) (by simp only [maxLen]; omega) (by omega) hbo.size ?_; intro B3 d3 w3 ho3 hg3))
          go_roundw
          case rel => exact ⟨j + 1, by omega, by go_num, B3, q + 1, d3, rfl, by omega, by rw [E.out]; exact ho3, below_push hbo how hg3 (Nat.le_refl _)⟩
          case measure => simp [intOf]; omega
      · have hk0 : kinds l ((j : Int) + 1) = [] := List.eq_nil_of_length_eq_zero (by rw [← HSZ.out]; omega)
        have hpe := HEMP.out hk0
        have E := Lib.hid (openTo_no (l := l) (j := j) (by rw [hk0]; rfl))
        clear hend hk0 hp h0
        subst hpe
        go_wp2
        go_roundw
        case rel => exact ⟨j + 1, by omega, by go_num, B, q, d, rfl, by omega, by rw [E.out]; exact how, hbo⟩
        case measure => simp [intOf]; omega
    · obtain rfl : j = 20 := by omega
      clear ha
      go_wp2
      go_ret
      exact ⟨⟨_, _, _, rfl, how⟩, hbo⟩

end Go.Proofs.Ytmmogpbbehgkiaa
