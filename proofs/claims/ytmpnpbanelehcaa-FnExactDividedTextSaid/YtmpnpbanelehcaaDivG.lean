/-
  YtmpnpbanelehcaaDivG: clauses: which stand, the reference's side; StandingClauses and FallenClauses, both sides. (Printed by wip/gen/divg.py.)
-/
import Derived.Test.YtmpnpbanelehcaaDivF
namespace Go.Proofs.Ytmpnpbanelehcaa
open Go Go.RowKit Go.Sort
set_option linter.unusedVariables false

def votB (l : List CL) (ad : List Bool) : Bool := clsB l && decide (ad.length = l.length)
def staL (l : List CL) (ad : List Bool) : List Int := if votB l ad then chs (stB l ad) else []
theorem staL_no {l : List CL} {ad : List Bool} (h : votB l ad = false) : staL l ad = [] := by simp [staL, h]
theorem staL_yes {l : List CL} {ad : List Bool} (h : votB l ad = true) : staL l ad = chs (stB l ad) := by simp [staL, h]
theorem stB_len (l : List CL) (ad : List Bool) : (stB l ad).length = l.length := stTo_len _ _ _
theorem staL_len (l : List CL) (ad : List Bool) : (staL l ad).length ≤ l.length := by
  unfold staL; split
  · exact Nat.le_trans (chs_len _) (Nat.le_of_eq (stB_len _ _))
  · simp
/-- Whether a clause is adopted and does not stand. -/
def falP (l : List CL) (ad : List Bool) (m : Nat) : Bool := ad.getD m false && !(stB l ad).getD m false
def falL (l : List CL) (ad : List Bool) : List Int := if votB l ad then chP l.length (falP l ad) else []
theorem falL_no {l : List CL} {ad : List Bool} (h : votB l ad = false) : falL l ad = [] := by simp [falL, h]
theorem falL_yes {l : List CL} {ad : List Bool} (h : votB l ad = true) : falL l ad = chP l.length (falP l ad) := by simp [falL, h]
theorem falL_len (l : List CL) (ad : List Bool) : (falL l ad).length ≤ l.length := by
  unfold falL; split
  · exact chP_len _ _
  · simp
def falT (l : List CL) (ad : List Bool) (t : Nat) : List Bool := (List.range l.length).map (fun m => if m < t then falP l ad m else (stB l ad).getD m false)
theorem falT_start (l : List CL) (ad : List Bool) : falT l ad 0 = stB l ad := by
  apply List.ext_getElem?
  intro m
  by_cases h : m < l.length
  · unfold falT
    rw [map_get h]
    simp [List.getD, List.getElem?_eq_getElem (show m < (stB l ad).length by rw [stB_len]; exact h)]
  · rw [List.getElem?_eq_none (by simp [falT]; omega), List.getElem?_eq_none (by rw [stB_len]; omega)]
theorem falT_next {l : List CL} {ad : List Bool} {t : Nat} : (falT l ad t).set t (falP l ad t) = falT l ad (t + 1) := by
  have := map_set (n := l.length) (f := fun m => if m < t then falP l ad m else (stB l ad).getD m false) (g := fun m => if m < t + 1 then falP l ad m else (stB l ad).getD m false) (t := t) (fun m hm => by
    rcases Nat.lt_or_ge m t with h | h
    · simp [h, show m < t + 1 by omega]
    · simp [show ¬ m < t by omega, show ¬ m < t + 1 by omega])
  simp only [Nat.lt_succ_self, if_true] at this
  exact this
theorem falT_get {l : List CL} {ad : List Bool} {t : Nat} (h : t < l.length) : (falT l ad t)[t]? = some ((stB l ad).getD t false) := by
  unfold falT; rw [map_get h]; simp
theorem falT_end {l : List CL} {ad : List Bool} : chs (falT l ad l.length) = chP l.length (falP l ad) := by
  unfold falT chP
  congr 1
  apply List.map_congr_left
  intro m hm
  rw [if_pos (List.mem_range.1 hm)]


set_option maxRecDepth 100000 in
theorem isVote_any (A : Option Addr) (n c : Nat) (hs : List HC) (l : List CL) (Aa : Option Addr) (na ca : Nat) (ad : List Bool) (w : World) (ha : RdC w A n c hs l) (hb : Rd boV 1 w Aa na ca ad) (hg : ∀ x ∈ l, ClSz x) :
    Calls Try.prog 77 #[.slice A n c, .slice Aa na ca] w fun e w' => e = .returned (.bool (votB l ad)) ∧ Below w.heap.size w w' := by
  have HL := Lib.hid ha.len
  have HA := Lib.hid hb.len
  have hm := ha.le
  have hm2 := hb.le
  go_enter Try.func77, Try.ntmps77
  go_wp2_with fail
  refine (AreClauses_any _ _ _ _ _ _ ha hg).mono ?_
  rintro e w1 ⟨rfl, b1⟩
  cases h1 : clsB l
  · have E := Lib.hid (show votB l ad = false by unfold votB; rw [h1]; rfl)
    clear ha hb h1
    go_wp2
    go_ret
    exact ⟨ret_bool E.out.symm, b1⟩
  · have E := Lib.hid (show votB l ad = decide ((na : Int) = (n : Int)) by unfold votB; rw [h1, HA.out, HL.out, Bool.true_and]; congr 1; simp; omega)
    clear ha hb h1
    go_wp2
    go_ret
    exact ⟨ret_bool (by rw [E.out]; first | rfl | simp), b1⟩


set_option maxRecDepth 100000 in
theorem l19Asked_any (A : Option Addr) (n c : Nat) (hs : List HC) (l : List CL) (Aa : Option Addr) (na ca : Nat) (ad : List Bool) (w : World) (ha : RdC w A n c hs l) (hb : Rd boV 1 w Aa na ca ad) (hg : ∀ x ∈ l, ClSz x) :
    Calls Try.prog 75 #[.slice A n c, .slice Aa na ca] w fun e w' => e = .returned (.bool (votB l ad)) ∧ Below w.heap.size w w' := by
  have HL := Lib.hid ha.len
  have HA := Lib.hid hb.len
  have hm := ha.le
  have hm2 := hb.le
  go_enter Try.func75, Try.ntmps75
  go_wp2_with fail
  refine (l19Good_any _ _ _ _ _ _ ha hg).mono ?_
  rintro e w1 ⟨rfl, b1⟩
  cases h1 : clsB l
  · have E := Lib.hid (show votB l ad = false by unfold votB; rw [h1]; rfl)
    clear ha hb h1
    go_wp2
    go_ret
    exact ⟨ret_bool E.out.symm, b1⟩
  · have E := Lib.hid (show votB l ad = decide ((na : Int) = (n : Int)) by unfold votB; rw [h1, HA.out, HL.out, Bool.true_and]; congr 1; simp; omega)
    clear ha hb h1
    go_wp2
    go_ret
    exact ⟨ret_bool (by rw [E.out]; first | rfl | simp), b1⟩


set_option maxRecDepth 100000 in
set_option maxHeartbeats 2000000 in
theorem l19Stand_any (A : Option Addr) (n c : Nat) (hs : List HC) (l : List CL) (Aa : Option Addr) (ca : Nat) (ad : List Bool) (w : World) (ha : RdC w A n c hs l) (hb : Rd boV 1 w Aa n ca ad) (hv : clsB l = true) :
    Calls Try.prog 76 #[.slice A n c, .slice Aa n ca] w fun e w' => (∃ B q d, e = .returned (.slice B q d) ∧ Own inV 1 w' w.heap.size 3 B q d (chs (stB l ad))) ∧ Below w.heap.size w w' := by
  obtain ⟨i0, hii, hz0, hz1, hz2⟩ := info_parts Try.infoin
  have HL := Lib.hid ha.len
  have HV := Lib.hid hv
  have hn8 : n ≤ 8 := by rw [← HL.out]; exact cls_len hv
  have oe := Own.empty inV 1 w 3
  clear hv
  go_enter Try.func76, Try.ntmps76
  go_wp2
  go_loopw [5, 6] (fun v kv wr => ∃ k : Nat, k ≤ n ∧ kv = .int .i64 k ∧ (∃ B q d, v = .slice B q d ∧ q ≤ k ∧ Own inV 1 wr w.heap.size 3 B q d (chs (stTo l ad k))) ∧ Below w.heap.size w wr) (fun _ kv _ => n - (intOf kv).toNat)
  case atStart => exact ⟨0, Nat.zero_le _, rfl, ⟨_, 0, 0, rfl, Nat.le_refl _, oe⟩, below_alloc _⟩
  case round =>
    clear oe
    obtain ⟨k, hk, rfl, ⟨B, q, d, rfl, hq, ho⟩, hbw⟩ := hrel
    by_cases hlt : k < n
    · obtain ⟨x, hx⟩ : ∃ x, l[k]? = some x := ⟨_, List.getElem?_eq_getElem (by rw [HL.out]; exact hlt)⟩
      obtain ⟨b2, o2, a, rfl, hax, d0⟩ := (hb.below hbw).bo hlt
      have HX := Lib.hid hx
      have NX := Lib.hid (stTo_next l ad hx hax)
      have NB := Lib.hid (fun y (hy : y ∈ x.ns) => ns_bd HV.out hx hy)
      have HO := Lib.hid ho
      have HB := Lib.hid hb
      clear hx hax ho hb
      go_wp2
      obtain ⟨wo, hwo⟩ : ∃ wo : World, wo = wr := ⟨_, rfl⟩
      subst hwo
      go_loop [7, 8] (fun sv jv => ∃ j : Nat, j ≤ x.ns.length ∧ jv = .int .i64 j ∧ sv = .bool (a && (x.ns.take j).all (gdB (stTo l ad k)))) (fun _ jv => x.ns.length - (intOf jv).toNat)
      case atStart => exact ⟨0, Nat.zero_le _, rfl, by simp⟩
      case round =>
        obtain ⟨j, hj, rfl, rfl⟩ := hrel
        obtain ⟨b1, o1, h, x', rfl, hx', -, c0, c1, x0, x1⟩ := (ha.below hbw).at hlt
        obtain rfl : x = x' := by have h5 := HX.out; rw [hx'] at h5; injection h5 with h5; exact h5.symm
        have LN := Lib.hid x1.len
        have hnm := x1.le
        have hl1 : x.ns.length ≤ h.nn := by rw [LN.out]; exact Nat.le_refl _
        have hl2 : h.nn ≤ x.ns.length := by rw [LN.out]; exact Nat.le_refl _
        clear hx'
        by_cases hjl : j < h.nn
        · obtain ⟨b5, o5, y, hAe, hy, d1⟩ := x1.in hjl
          have hyb := NB.out y (List.mem_of_getElem? hy)
          have HH := Lib.hid (has_chs (bs := stTo l ad k) hyb.1)
          have TK : Hid ((a && (x.ns.take (j + 1)).all (gdB (stTo l ad k))) = ((a && (x.ns.take j).all (gdB (stTo l ad k))) && gdB (stTo l ad k) y)) := by
            show _ = _
            rw [List.take_add_one, hy, List.all_append]; simp [Bool.and_assoc]
          clear hy hyb x0 x1 ha
          rw [hAe] at c1
          clear hAe
          cases hs1 : (a && (x.ns.take j).all (gdB (stTo l ad k)))
          · have E := Lib.hid (show (a && (x.ns.take (j + 1)).all (gdB (stTo l ad k))) = false by rw [TK.out, hs1]; rfl)
            go_wp2
            go_round
            case rel => exact ⟨j + 1, by omega, by go_num, by rw [E.out]⟩
            case measure => first | (simp [intOf]; done) | (simp [intOf]; omega)
          · have E := Lib.hid (show (a && (x.ns.take (j + 1)).all (gdB (stTo l ad k))) = gdB (stTo l ad k) y by rw [TK.out, hs1]; rfl)
            clear hs1
            go_wp2_with fail
            refine (l1Has_any _ _ _ _ _ _ (HO.out.rd inV_len)).mono ?_
            rintro e w2 ⟨rfl, rfl⟩
            go_wp2
            go_round
            case rel => exact ⟨j + 1, by omega, by go_num, by rw [E.out]; first | rfl | (congr 1; exact HH.out) | (have h9 := HH.out; simp at h9; simp [h9, gdB])⟩
            case measure => first | (simp [intOf]; done) | (simp [intOf]; omega)
        · have hjn : x.ns.length = j := by omega
          have E0 : Hid ((a && (x.ns.take j).all (gdB (stTo l ad k))) = (a && x.ns.all (gdB (stTo l ad k)))) := by show _ = _; rw [List.take_of_length_le (by omega)]
          have HLT := Lib.hid (stTo_len l ad k)
          clear x0 x1 ha hjn
          rw [E0.out]
          cases hs1 : (a && x.ns.all (gdB (stTo l ad k)))
          · have E := Lib.hid (show chs (stTo l ad (k + 1)) = chs (stTo l ad k) by rw [NX.out, hs1, chs_snoc]; simp)
            go_wp2
            go_roundw
            case rel => exact ⟨k + 1, by omega, by go_num, ⟨B, q, d, rfl, by omega, by rw [E.out]; exact HO.out⟩, hbw⟩
            case measure => first | (simp [intOf]; done) | (simp [intOf]; omega)
          · have E := Lib.hid (show chs (stTo l ad (k + 1)) = chs (stTo l ad k) ++ [(k : Int)] by rw [NX.out, hs1, chs_snoc, HLT.out]; simp)
            clear hs1
            go_wp2_with (at_builtin; refine wpList_push rfl _ _ _ rfl w.heap.size 3 i0 (.int .i64 0) 1 8 Try.underlying31 hii hz0 hz1 hz2 rfl (by omega) inV inV_len one_int2 B q d _ rfl HO.out (k : Int) _ rfl _ rfl (by first | rfl | simp) (by simp only [maxLen]; omega) (by omega) hbw.size ?_; intro B3 d3 w3 ho3 hg3)
            go_roundw
            case rel => exact ⟨k + 1, by omega, by go_num, ⟨B3, q + 1, d3, rfl, by omega, by rw [E.out]; exact ho3⟩, below_push hbw HO.out hg3 (Nat.le_refl _)⟩
            case measure => first | (simp [intOf]; done) | (simp [intOf]; omega)
    · obtain rfl : k = n := by omega
      have E := Lib.hid (show stTo l ad k = stB l ad by unfold stB; rw [HL.out])
      have HO := Lib.hid ho
      clear ha hb ho
      go_wp2
      go_ret
      exact ⟨⟨_, _, _, rfl, by rw [← E.out]; exact HO.out⟩, hbw⟩


set_option maxRecDepth 100000 in
set_option maxHeartbeats 1000000 in
theorem implStanding_any (A : Option Addr) (n c : Nat) (hs : List HC) (l : List CL) (Aa : Option Addr) (na ca : Nat) (ad : List Bool) (w : World) (ha : RdC w A n c hs l) (hb : Rd boV 1 w Aa na ca ad) (hg : ∀ x ∈ l, ClSz x) :
    Calls Try.prog 31 #[.slice A n c, .slice Aa na ca] w fun e w' => (∃ B q d, e = .returned (.tuple #[.slice B q d, .bool (votB l ad)]) ∧ Own inV 1 w' w.heap.size 3 B q d (staL l ad)) ∧ Below w.heap.size w w' := by
  have HL := Lib.hid ha.len
  have HA := Lib.hid hb.len
  go_enter Try.func31, Try.ntmps31
  go_wp2_with fail
  refine (isVote_any _ _ _ _ _ _ _ _ _ _ ha hb hg).mono ?_
  rintro e w1 ⟨rfl, b1⟩
  cases h1 : votB l ad
  · have E := Lib.hid h1
    clear ha hb
    go_wp2
    go_ret2
    exact ⟨⟨_, _, _, ret_sl_bool' E.out.symm, by rw [staL_no E.out]; exact Own.nil _ _ _⟩, b1⟩
  have E := Lib.hid h1
  have hv : clsB l = true := by unfold votB at h1; rw [Bool.and_eq_true] at h1; exact h1.1
  obtain rfl : na = n := by unfold votB at h1; rw [Bool.and_eq_true] at h1; have := of_decide_eq_true h1.2; rw [HA.out, HL.out] at this; exact this
  have hn8 : na ≤ 8 := by rw [← HL.out]; exact cls_len hv
  clear h1 hg
  go_wp2_with fail
  refine (standing_any _ _ _ _ l _ _ ad _ (ha.below b1) (hb.below b1) hv).mono ?_
  rintro e w2 ⟨⟨B, d, rfl, o2⟩, b2⟩
  have O2 := Lib.hid o2
  clear ha hb o2
  go_wp2_with fail
  refine (chosen_any _ _ _ _ _ (O2.out.rd boV_len) (by omega)).mono ?_
  rintro e w3 ⟨⟨B3, q3, d3, rfl, o3⟩, b3⟩
  have O3 := Lib.hid o3
  have t2 := below_trans b1 b2
  clear o3
  go_wp2
  go_ret2
  exact ⟨⟨_, _, _, ret_sl_bool' E.out.symm, by rw [staL_yes E.out]; exact O3.out.base_le t2.size⟩, below_trans t2 b3⟩


set_option maxRecDepth 100000 in
set_option maxHeartbeats 1000000 in
theorem specStanding_any (A : Option Addr) (n c : Nat) (hs : List HC) (l : List CL) (Aa : Option Addr) (na ca : Nat) (ad : List Bool) (w : World) (ha : RdC w A n c hs l) (hb : Rd boV 1 w Aa na ca ad) (hg : ∀ x ∈ l, ClSz x) :
    Calls Try.prog 29 #[.slice A n c, .slice Aa na ca] w fun e w' => (∃ B q d, e = .returned (.tuple #[.slice B q d, .bool (votB l ad)]) ∧ Own inV 1 w' w.heap.size 3 B q d (staL l ad)) ∧ Below w.heap.size w w' := by
  have HL := Lib.hid ha.len
  have HA := Lib.hid hb.len
  go_enter Try.func29, Try.ntmps29
  go_wp2_with fail
  refine (l19Asked_any _ _ _ _ _ _ _ _ _ _ ha hb hg).mono ?_
  rintro e w1 ⟨rfl, b1⟩
  cases h1 : votB l ad
  · have E := Lib.hid h1
    clear ha hb
    go_wp2
    go_ret2
    exact ⟨⟨_, _, _, ret_sl_bool' E.out.symm, by rw [staL_no E.out]; exact (Own.empty _ _ _ _).base_le b1.size⟩, below_trans b1 (below_alloc _)⟩
  have E := Lib.hid h1
  have hv : clsB l = true := by unfold votB at h1; rw [Bool.and_eq_true] at h1; exact h1.1
  obtain rfl : na = n := by unfold votB at h1; rw [Bool.and_eq_true] at h1; have := of_decide_eq_true h1.2; rw [HA.out, HL.out] at this; exact this
  have hn8 : na ≤ 8 := by rw [← HL.out]; exact cls_len hv
  clear h1 hg
  go_wp2_with fail
  refine (l19Stand_any _ _ _ _ l _ _ ad _ (ha.below b1) (hb.below b1) hv).mono ?_
  rintro e w2 ⟨⟨B, q, d, rfl, o2⟩, b2⟩
  have O2 := Lib.hid o2
  clear ha hb o2
  go_wp2
  go_ret2
  exact ⟨⟨_, _, _, ret_sl_bool' E.out.symm, by rw [staL_yes E.out]; exact O2.out.base_le b1.size⟩, below_trans b1 b2⟩


end Go.Proofs.Ytmpnpbanelehcaa
