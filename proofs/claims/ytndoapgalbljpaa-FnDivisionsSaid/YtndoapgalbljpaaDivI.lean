/-
  YtndoapgalbljpaaDivI: clauses: DividedText, both sides. (Printed by wip/gen/divi.py.)
-/
import Derived.Test.YtndoapgalbljpaaDivG
namespace Go.Proofs.Ytndoapgalbljpaa
open Go Go.RowKit Go.Sort
set_option linter.unusedVariables false

def wsOf (l : List CL) (i : Int) : List ByteArray := (l[i.toNat]?.map (·.ws)).getD []
/-- The words of the first k clauses of those that stand. -/
def txtTo (l : List CL) (ad : List Bool) (k : Nat) : List ByteArray := ((chs (stB l ad)).take k).flatMap (wsOf l)
def txtB (l : List CL) (ad : List Bool) : List ByteArray := (chs (stB l ad)).flatMap (wsOf l)
def txtOk (t : List ByteArray) : Bool := inB t.length 0 20 && t.all wordB
def divB (l : List CL) (ad : List Bool) : Bool := votB l ad && txtOk (txtB l ad)
def divL (l : List CL) (ad : List Bool) : List ByteArray := if divB l ad then txtB l ad else []
theorem divL_no {l : List CL} {ad : List Bool} (h : divB l ad = false) : divL l ad = [] := by simp [divL, h]
theorem divL_yes {l : List CL} {ad : List Bool} (h : divB l ad = true) : divL l ad = txtB l ad := by simp [divL, h]
theorem divL_len (l : List CL) (ad : List Bool) : (divL l ad).length ≤ 20 := by
  unfold divL; split
  · rename_i h
    unfold divB txtOk at h
    rw [Bool.and_eq_true, Bool.and_eq_true] at h
    have := inB_iff.1 h.2.1
    omega
  · simp
theorem txt_next {l : List CL} {ad : List Bool} {k : Nat} {i : Int} {x : CL} (h : (chs (stB l ad))[k]? = some i) (hx : l[i.toNat]? = some x) : txtTo l ad (k + 1) = txtTo l ad k ++ x.ws := by
  unfold txtTo; rw [List.take_add_one, h, List.flatMap_append]; simp [wsOf, hx]
theorem txt_len {l : List CL} (hv : clsB l = true) (ad : List Bool) : ∀ k, (txtTo l ad k).length ≤ 5 * k
  | 0 => by simp [txtTo]
  | k + 1 => by
    have h := txt_len hv ad k
    cases hi : (chs (stB l ad))[k]? with
    | none => unfold txtTo at *; rw [List.take_add_one, hi]; simp at *; omega
    | some i =>
      cases hx : l[i.toNat]? with
      | none =>
        have : txtTo l ad (k + 1) = txtTo l ad k := by unfold txtTo; rw [List.take_add_one, hi, List.flatMap_append]; simp [wsOf, hx]
        rw [this]; omega
      | some x => rw [txt_next hi hx, List.length_append]; have := (ws_ok hv hx).1; omega
theorem txt_sz {l : List CL} (hg : ∀ x ∈ l, ClSz x) (ad : List Bool) : ∀ s ∈ txtB l ad, StSz s := by
  intro s hs
  unfold txtB at hs
  obtain ⟨i, _, h⟩ := List.mem_flatMap.1 hs
  unfold wsOf at h
  cases hx : l[i.toNat]? with
  | none => rw [hx] at h; simp at h
  | some x => rw [hx] at h; exact hg x (List.mem_of_getElem? hx) s h
theorem chs_at {bs : List Bool} {k : Nat} {y : Int} (h : (chs bs)[k]? = some y) : ∃ i : Nat, y = (i : Int) ∧ i < bs.length := by
  have := mem_chs.1 (List.mem_of_getElem? h)
  obtain ⟨i, rfl⟩ := Int.eq_ofNat_of_zero_le this.1
  exact ⟨i, rfl, by rw [Int.toNat_natCast] at this; exact (List.getElem?_eq_some_iff.1 this.2).1⟩
theorem one_str2 : ∀ x : ByteArray, ∀ u ∈ stV x, u.oneCell' = true := by intro x u h; simp [stV] at h; subst h; rfl

theorem isText_any (A : Option Addr) (n c : Nat) (t : List ByteArray) (w : World) (ha : Rd stV 1 w A n c t) (hg : ∀ x ∈ t, StSz x) :
    Calls Try.prog 52 #[.slice A n c] w fun e w' => e = .returned (.bool (txtOk t)) ∧ Below w.heap.size w w' := by
  go_enter Try.func52, Try.ntmps52
  go_wp2_with fail
  refine (areWords_any _ _ _ _ _ _ _ ha hg).mono ?_
  rintro e w1 ⟨rfl, b1⟩
  go_wp2
  go_ret
  exact ⟨rfl, b1⟩
set_option maxRecDepth 100000 in
set_option maxHeartbeats 2000000 in
theorem implDivided_any (A : Option Addr) (n c : Nat) (hs : List HC) (l : List CL) (Aa : Option Addr) (na ca : Nat) (ad : List Bool) (w : World) (ha : RdC w A n c hs l) (hb : Rd boV 1 w Aa na ca ad) (hg : ∀ x ∈ l, ClSz x) :
    Calls Try.prog 21 #[.slice A n c, .slice Aa na ca] w fun e w' => (∃ B q d, e = .returned (.tuple #[.slice B q d, .bool (divB l ad)]) ∧ Own stV 1 w' w.heap.size 9 B q d (divL l ad)) ∧ Below w.heap.size w w' := by
  obtain ⟨i0, hii, hz0, hz1, hz2⟩ := info_parts Try.infost
  have HL := Lib.hid ha.len
  have HA := Lib.hid hb.len
  go_enter Try.func21, Try.ntmps21
  go_wp2_with fail
  refine (isVote_any _ _ _ _ _ _ _ _ _ _ ha hb hg).mono ?_
  rintro e w1 ⟨rfl, b1⟩
  cases h1 : votB l ad
  · have E := Lib.hid (show divB l ad = false by unfold divB; rw [h1]; rfl)
    clear ha hb
    go_wp2
    go_ret2
    exact ⟨⟨_, _, _, ret_sl_bool' E.out.symm, by rw [divL_no E.out]; exact Own.nil _ _ _⟩, b1⟩
  have E1 := Lib.hid h1
  have hv : clsB l = true := by unfold votB at h1; rw [Bool.and_eq_true] at h1; exact h1.1
  obtain rfl : na = n := by unfold votB at h1; rw [Bool.and_eq_true] at h1; have := of_decide_eq_true h1.2; rw [HA.out, HL.out] at this; exact this
  have hn8 : na ≤ 8 := by rw [← HL.out]; exact cls_len hv
  have HV := Lib.hid hv
  have HG := Lib.hid (txt_sz hg ad)
  clear h1 hg
  have HR := Lib.hid ha
  have oe := Own.empty stV 1 w1 9
  have b0 := below_alloc (w := w1) (.cells #[] 9)
  have t0 := below_trans b1 b0
  go_wp2_with fail
  generalize hgw0 : w1.alloc (.cells #[] 9) = w0 at *
  clear hgw0
  refine (standing_any _ _ _ _ l _ _ ad _ (ha.below t0) (hb.below t0) hv).mono ?_
  rintro e w2 ⟨⟨B, d, rfl, o2⟩, b2⟩
  have O2 := Lib.hid o2
  clear ha hb o2
  go_wp2_with fail
  refine (chosen_any _ _ _ _ _ (O2.out.rd boV_len) (by omega)).mono ?_
  rintro e w3 ⟨⟨Bi, q, di, rfl, oi0⟩, b3⟩
  obtain ⟨ww, hww⟩ : ∃ ww : World, ww = w2 := ⟨_, rfl⟩
  have oi : Own inV 1 w3 ww.heap.size 3 Bi q di (chs (stB l ad)) := by rw [hww]; exact oi0
  have hq8 : q ≤ 8 := by rw [← oi.len]; exact Nat.le_trans (chs_len _) (by rw [stB_len]; exact cls_len HV.out)
  have t2 := below_trans (below_trans t0 b2) b3
  have oe2 := (((oe.below b2).below b3).base_le b1.size)
  rw [show ([] : List ByteArray) = txtTo l ad 0 by simp [txtTo]] at oe2
  clear oe oi0 hww hv b0 b1 b2 b3 t0
  go_wp2
  go_loopw [6, 19] (fun v kv wr => ∃ k : Nat, k ≤ q ∧ kv = .int .i64 k ∧ (∃ B m d, v = .slice B m d ∧ m ≤ 5 * k ∧ Own stV 1 wr w.heap.size 9 B m d (txtTo l ad k)) ∧ Below w.heap.size w wr ∧ Own inV 1 wr ww.heap.size 3 Bi q di (chs (stB l ad))) (fun _ kv _ => q - (intOf kv).toNat)
  case atStart => exact ⟨0, Nat.zero_le _, rfl, ⟨_, 0, 0, rfl, Nat.le_refl _, oe2⟩, t2, oi⟩
  case round =>
    clear oe2 oi t2
    obtain ⟨k, hk, rfl, ⟨B, m, d, rfl, hmk, ho⟩, hbw, oi⟩ := hrel
    have HO := Lib.hid ho
    have OI := Lib.hid oi
    clear ho
    by_cases hlt : k < q
    · obtain ⟨b2, o2, y, rfl, hy, d0⟩ := (oi.rd inV_len).in hlt
      obtain ⟨i, rfl, hib⟩ := chs_at hy
      have hin : i < na := by rw [← HL.out, ← stB_len l ad]; exact hib
      obtain ⟨b1, o1, h, x, rfl, hx, -, c0, c1, x0, x1⟩ := (HR.out.below hbw).at hin
      have NX := Lib.hid (txt_next hy (by rw [Int.toNat_natCast]; exact hx))
      have XW := Lib.hid x0
      have hw5 : h.wn ≤ 5 := by rw [← x0.len]; exact (ws_ok HV.out hx).1
      have hi0 : (0 : Int) ≤ (i : Int) := by omega
      have hin' : (i : Int) < (na : Int) := by omega
      have N1 := Lib.hid (oi.ne_block HO.out (by decide))
      clear hy hx hib x0 x1 oi
      go_wp2_with (at_builtin; refine wpList_pushAll rfl _ _ _ rfl w.heap.size 9 i0 (.string ByteArray.empty) 1 16 Try.underlying45 hii hz0 hz1 hz2 rfl (by omega) stV stV_len one_str2 B m d _ rfl HO.out _ h.wn h.wc x.ws rfl XW.out (by simp only [maxLen]; omega) (by omega) hbw.size ?_; intro B3 d3 w5 ho3 hg3)
      have O3 := Lib.hid ho3
      have OI2 := Lib.hid (OI.out.grown hg3 N1.out)
      clear ho3
      go_roundw
      case rel => exact ⟨k + 1, by omega, by go_num, ⟨B3, m + h.wn, d3, rfl, by omega, by rw [NX.out]; exact O3.out⟩, below_push hbw HO.out hg3 (Nat.le_refl _), OI2.out⟩
      case measure => first | (simp [intOf]; done) | (simp [intOf]; omega)
    · obtain rfl : k = q := by omega
      have TE := Lib.hid (show txtTo l ad k = txtB l ad by unfold txtTo txtB; rw [List.take_of_length_le (by rw [OI.out.len]; exact Nat.le_refl _)])
      have HT := Lib.hid (show Own stV 1 wr w.heap.size 9 B m d (txtB l ad) by rw [← TE.out]; exact HO.out)
      clear oi
      go_wp2_with fail
      refine (isText_any _ _ _ _ _ (HT.out.rd stV_len) HG.out).mono ?_
      rintro e w6 ⟨rfl, b6⟩
      have HT2 := Lib.hid (HT.out.below b6)
      have t6 := below_trans hbw b6
      cases h9 : txtOk (txtB l ad)
      · have E := Lib.hid (show divB l ad = false by unfold divB; rw [h9, Bool.and_false])
        clear h9
        go_wp2
        go_ret2
        exact ⟨⟨_, _, _, ret_sl_bool' E.out.symm, by rw [divL_no E.out]; exact Own.nil _ _ _⟩, t6⟩
      · have E := Lib.hid (show divB l ad = true by unfold divB; rw [h9, E1.out]; rfl)
        clear h9
        go_wp2
        go_ret2
        exact ⟨⟨_, _, _, ret_sl_bool' E.out.symm, by rw [divL_yes E.out]; exact HT2.out⟩, t6⟩


end Go.Proofs.Ytndoapgalbljpaa
