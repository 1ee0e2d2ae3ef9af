/-
  YtcockjjilcapaaaGreatDoorSlipP: ParseSlip on both sides, by contracts. (Printed by wip/gen/slip.py.)
-/
import Derived.Test.YtcockjjilcapaaaGreatDoorSlipA
import Derived.Test.YtcockjjilcapaaaGreatDoorRdn
import Derived.RegionTactic
import Derived.BigRegion
import Derived.Deep.RegionWith
import Derived.Deep.RegionLaw
import Derived.Deep.DeepCutAuto
import Derived.Lib.CutLaws
namespace Go.Proofs.YtcockjjilcapaaaGreatDoor
open Go Go.RowKit Go.Sort
set_option linter.unusedVariables false
set_option linter.unusedSimpArgs false

/-! ### the plain law -/
theorem cut_app {u r : List UInt8} {b : UInt8} (h : b ∉ u) : Lib.cut (u ++ b :: r) [b] = (u, r, true) := by
  have hi : Lib.index (u ++ b :: r) [b] = (u.length : Int) := by
    refine Lib.index_first (by simp) (occ_one.2 (by simp)) ?_
    intro j hj
    cases ho : Lib.occAt (u ++ b :: r) [b] j
    · rfl
    · have := occ_one.1 ho
      rw [List.getElem?_append_left hj] at this
      exact absurd (List.mem_of_getElem? this) h
  unfold Lib.cut
  rw [hi, if_pos (by omega)]
  simp
theorem cut_sz (s p : List UInt8) : (Lib.cut s p).1.length ≤ s.length ∧ (Lib.cut s p).2.1.length ≤ s.length := by
  unfold Lib.cut
  split
  · dsimp only; rw [List.length_take, List.length_drop]; omega
  · dsimp only; simp
def cutA (s : ByteArray) (b : UInt8) : ByteArray := mkB (Lib.cut s.data.toList [b]).1
def cutB (s : ByteArray) (b : UInt8) : ByteArray := mkB (Lib.cut s.data.toList [b]).2.1
def cutG (s : ByteArray) (b : UInt8) : Bool := (Lib.cut s.data.toList [b]).2.2
theorem cutA_size (s : ByteArray) (b : UInt8) : (cutA s b).size ≤ s.size := by unfold cutA; rw [mkB_size]; exact (cut_sz _ _).1
theorem cutB_size (s : ByteArray) (b : UInt8) : (cutB s b).size ≤ s.size := by unfold cutB; rw [mkB_size]; exact (cut_sz _ _).2
theorem cuts_app {u r : ByteArray} {b : UInt8} (h : b ∉ u.data.toList) : cutA (u ++ ⟨#[b]⟩ ++ r) b = u ∧ cutB (u ++ ⟨#[b]⟩ ++ r) b = r ∧ cutG (u ++ ⟨#[b]⟩ ++ r) b = true := by
  have e : (u ++ ⟨#[b]⟩ ++ r).data.toList = u.data.toList ++ b :: r.data.toList := by simp
  unfold cutA cutB cutG
  rw [e, cut_app h]
  exact ⟨mkB_data _, mkB_data _, rfl⟩
/-- What the reference's VerifyChecksum gives. -/
def verP (s : ByteArray) : ByteArray × Bool := if 4000 < s.size then (⟨#[]⟩, false) else if sealS ((cutS s 35).getD 0 ⟨#[]⟩) = s then ((cutS s 35).getD 0 ⟨#[]⟩, true) else (⟨#[]⟩, false)
theorem verP_long {s : ByteArray} (h : 4000 < s.size) : verP s = (⟨#[]⟩, false) := by unfold verP; rw [if_pos h]
theorem verP_yes {s t : ByteArray} (h : ¬ 4000 < s.size) (ht : (cutS s 35)[0]? = some t) (e : sealS t = s) : verP s = (t, true) := by
  unfold verP
  rw [if_neg h, List.getD, ht]
  exact if_pos e
theorem verP_no {s t : ByteArray} (ht : (cutS s 35)[0]? = some t) (e : sealS t ≠ s) : verP s = (⟨#[]⟩, false) := by
  unfold verP
  rw [List.getD, ht]
  split
  · rfl
  · exact if_neg e
theorem verP_size (s : ByteArray) : (verP s).1.size ≤ s.size := by
  unfold verP
  split
  · exact Nat.zero_le _
  · split
    · cases h : (cutS s 35)[0]? with
      | none => rw [List.getD, h]; exact Nat.zero_le _
      | some t => rw [List.getD, h]; exact cutS_size (List.mem_of_getElem? h)
    · exact Nat.zero_le _
/-- What the program's VerifyChecksum gives. -/
def verI (s : ByteArray) : ByteArray × Bool := if cutG s 35 = true ∧ appG (cutA s 35) = true ∧ appS (cutA s 35) = s then (cutA s 35, true) else (⟨#[]⟩, false)
theorem verI_size (s : ByteArray) : (verI s).1.size ≤ s.size := by
  unfold verI
  split
  · exact cutA_size s 35
  · exact Nat.zero_le _
theorem slip_size {x : BA} (h : bOK x = true) : (slipS x).size ≤ 22 := by
  have h1 := bodyS_size (bOK_sz h).2.2
  have h2 := seal_num (bodyS x)
  unfold slipS
  rw [sealS_size]
  omega
theorem verP_slip {x : BA} (h : bOK x = true) : verP (slipS x) = (bodyS x, true) := by
  have hz := slip_size h
  refine verP_yes (by omega) ?_ rfl
  unfold slipS sealS
  rw [cutS_app (body_not h)]
  rfl
theorem verI_slip {x : BA} (h : bOK x = true) : verI (slipS x) = (bodyS x, true) := by
  obtain ⟨e1, _, e3⟩ := cuts_app (r := numS (sumS (bodyS x))) (body_not h)
  have e1' : cutA (slipS x) 35 = bodyS x := e1
  have e3' : cutG (slipS x) 35 = true := e3
  unfold verI
  rw [e1', e3', if_pos ⟨rfl, body_app h, by rw [appS, body_app h]; rfl⟩]
/-- Two digits read. -/
def dig2 (s : ByteArray) : Int := if h : 2 ≤ s.size then (if (s[0].toNat : Int) < 48 ∨ 57 < (s[0].toNat : Int) ∨ (s[1].toNat : Int) < 48 ∨ 57 < (s[1].toNat : Int) then 99 else 10 * ((s[0].toNat : Int) - 48) + (s[1].toNat : Int) - 48) else 99
theorem dig2_bd (s : ByteArray) : 0 ≤ dig2 s ∧ dig2 s ≤ 99 := by
  unfold dig2
  split
  · split
    · omega
    · omega
  · omega
theorem dig2_of {a b : Nat} (ha : a < 10) (hb : b < 10) : dig2 ⟨#[UInt8.ofNat (48 + a), UInt8.ofNat (48 + b)]⟩ = ((10 * a + b : Nat) : Int) := by
  have e1 : (UInt8.ofNat (48 + a)).toNat = 48 + a := by simp; omega
  have e2 : (UInt8.ofNat (48 + b)).toNat = 48 + b := by simp; omega
  unfold dig2
  rw [dif_pos (show 2 ≤ (⟨#[UInt8.ofNat (48 + a), UInt8.ofNat (48 + b)]⟩ : ByteArray).size from Nat.le_refl 2)]
  show (if ((UInt8.ofNat (48 + a)).toNat : Int) < 48 ∨ 57 < ((UInt8.ofNat (48 + a)).toNat : Int) ∨ ((UInt8.ofNat (48 + b)).toNat : Int) < 48 ∨ 57 < ((UInt8.ofNat (48 + b)).toNat : Int) then (99 : Int) else 10 * (((UInt8.ofNat (48 + a)).toNat : Int) - 48) + ((UInt8.ofNat (48 + b)).toNat : Int) - 48) = _
  rw [e1, e2, if_neg (by omega)]
  omega
theorem atoi_d4 {c : Nat} (h : c < 10000) : Lib.atoiAll (d4 c).data.toList = .ok (c : Int) := by
  have hd : (d4 c).data.toList = [UInt8.ofNat (48 + c / 1000), UInt8.ofNat (48 + c / 100 % 10), UInt8.ofNat (48 + c / 10 % 10), UInt8.ofNat (48 + c % 10)] := rfl
  have h0 : ∀ d, d < 10 → (UInt8.ofNat (48 + d)).toNat = 48 + d := fun d hd => by simp; omega
  rw [Lib.atoiAll_short _ (by rw [hd]; show 4 ≤ 18; omega), hd]
  have e1 : (UInt8.ofNat (48 + c / 1000) == 45) = false := by rw [beq_eq_false_iff_ne]; intro e; have := congrArg UInt8.toNat e; rw [h0 _ (by omega)] at this; simp at this; omega
  have e2 : (UInt8.ofNat (48 + c / 1000) == 43) = false := by rw [beq_eq_false_iff_ne]; intro e; have := congrArg UInt8.toNat e; rw [h0 _ (by omega)] at this; simp at this; omega
  have ea : Lib.atoi [UInt8.ofNat (48 + c / 1000), UInt8.ofNat (48 + c / 100 % 10), UInt8.ofNat (48 + c / 10 % 10), UInt8.ofNat (48 + c % 10)] = some (c : Int) := by
    show (if (UInt8.ofNat (48 + c / 1000) == 45) = true then _ else if (UInt8.ofNat (48 + c / 1000) == 43) = true then _ else _) = _
    rw [e1, e2, if_neg (by simp), if_neg (by simp)]
    have : Lib.decNat [UInt8.ofNat (48 + c / 1000), UInt8.ofNat (48 + c / 100 % 10), UInt8.ofNat (48 + c / 10 % 10), UInt8.ofNat (48 + c % 10)] = some c := by
      unfold Lib.decNat
      rw [if_neg (by simp)]
      simp only [Lib.decFrom, digit_of (show c / 1000 < 10 by omega), digit_of (show c / 100 % 10 < 10 by omega), digit_of (show c / 10 % 10 < 10 by omega), digit_of (show c % 10 < 10 by omega)]
      congr 1
      omega
    rw [this]; rfl
  rw [ea]; rfl
def chO (ch : ByteArray) : ByteArray := if ch = (⟨#[45]⟩ : ByteArray) then ⟨#[]⟩ else ch
theorem chO_of {x : BA} (h : bOK x = true) : chO (chS x) = x.ch := by
  unfold chO chS
  unfold bOK at h
  rw [Bool.and_eq_true, Bool.or_eq_true] at h
  cases he : x.ch.toList.isEmpty
  · rcases h.2 with h | h
    · rw [h] at he; cases he
    · rw [if_neg]
      · rfl
      · intro e
        have e' : x.ch = (⟨#[45]⟩ : ByteArray) := e
        rw [e'] at h
        revert h
        decide
  · rw [if_pos]
    · exact ((toList_nil_iff_emptyBytes _).1 (List.isEmpty_iff.1 he)).symm
    · rfl
theorem body_data (x : BA) : (bodyS x).data.toList = (d4 x.code.toNat).data.toList ++ 32 :: (chS x).data.toList := by unfold bodyS; simp
theorem body_ge {x : BA} (h : bOK x = true) : 6 ≤ (bodyS x).size := by
  have : 1 ≤ (chS x).size := by
    unfold bOK at h
    rw [Bool.and_eq_true, Bool.or_eq_true] at h
    unfold chS
    cases he : x.ch.toList.isEmpty
    · rcases h.2 with h | h
      · rw [h] at he; cases he
      · exact (word_size h).1
    · exact Nat.le_refl 1
  unfold bodyS
  simp only [ByteArray.size_append, szSp, d4_size]
  omega
theorem ext_eq {s t : ByteArray} {a b : Nat} (h : (s.data.toList.drop a).take (b - a) = t.data.toList) : s.extract a b = t := by
  rw [Lib.extract_eq, h]
theorem body_x1 (x : BA) : (bodyS x).extract 0 2 = ⟨#[UInt8.ofNat (48 + x.code.toNat / 1000), UInt8.ofNat (48 + x.code.toNat / 100 % 10)]⟩ := ext_eq (by rw [body_data]; rfl)
theorem body_x2 (x : BA) : (bodyS x).extract 2 4 = ⟨#[UInt8.ofNat (48 + x.code.toNat / 10 % 10), UInt8.ofNat (48 + x.code.toNat % 10)]⟩ := ext_eq (by rw [body_data]; rfl)
theorem body_x3 (x : BA) : (bodyS x).extract 5 (bodyS x).size = chS x := ext_eq (by
  have e : (bodyS x).size = 5 + (chS x).size := by unfold bodyS; simp only [ByteArray.size_append, szSp, d4_size]
  have e2 : (bodyS x).data.toList.drop 5 = (chS x).data.toList := by rw [body_data]; rfl
  rw [e, e2, Nat.add_sub_cancel_left]
  exact List.take_of_length_le (Nat.le_refl _))
/-- What both ParseSlip give. -/
def codB (t : ByteArray) : Int := 100 * dig2 (t.extract 0 2) + dig2 (t.extract 2 4)
def candB (s : ByteArray) : BA := ⟨codB (verP s).1, chO ((verP s).1.extract 5 (verP s).1.size)⟩
def parB (s : ByteArray) : BA × Bool := if bOK (candB s) = true ∧ slipS (candB s) = s then (candB s, true) else (⟨0, ⟨#[]⟩⟩, false)
theorem codB_of {x : BA} (h : bOK x = true) : codB (bodyS x) = x.code := by
  obtain ⟨h0, h1, _⟩ := bOK_sz h
  unfold codB
  rw [body_x1, body_x2, dig2_of (by omega) (by omega), dig2_of (by omega) (by omega)]
  omega
theorem candB_of {x : BA} (h : bOK x = true) : candB (slipS x) = x := by
  unfold candB
  rw [verP_slip h]
  dsimp only
  rw [codB_of h, body_x3, chO_of h]
theorem parB_hit {s : ByteArray} {x : BA} (h : bOK x = true) (e : slipS x = s) : parB s = (x, true) := by
  subst e
  unfold parB
  rw [candB_of h, if_pos ⟨h, rfl⟩]
theorem parB_none {s : ByteArray} (h : ∀ y, bOK y = true → slipS y ≠ s) : parB s = (⟨0, ⟨#[]⟩⟩, false) := by
  unfold parB
  exact if_neg (fun e => h _ e.1 e.2)
theorem parB_yes {s : ByteArray} (h : (parB s).2 = true) : bOK (parB s).1 = true ∧ slipS (parB s).1 = s := by
  unfold parB at h ⊢
  split
  · assumption
  · rename_i hn; rw [if_neg hn] at h; cases h

/-! ### the walks -/
set_option maxRecDepth 100000 in
set_option maxHeartbeats 1000000 in
theorem verP_any (s : ByteArray) (w : World) (hs : s.size ≤ 1048576) : Calls Tryz.prog 25 #[.string s] w fun e w' => e = .returned (.tuple #[.string (verP s).1, .bool (verP s).2]) ∧ Below w.heap.size w w' := by
  by_cases h4 : 4000 < s.size
  · have E := Lib.hid (verP_long h4)
    go_enter Tryz.func25, Tryz.ntmps25
    go_wp2
    go_ret2
    exact ⟨by rw [E.out]; rfl, Below.refl _ _⟩
  have H4 := Lib.hid h4
  have h4' : s.size ≤ 4000 := by omega
  clear h4
  go_enter Tryz.func25, Tryz.ntmps25
  go_wp2_with fail
  refine (l1Split_any s 35 _ (by omega)).mono ?_
  rintro e w1 ⟨⟨B, q, d, rfl, ho⟩, b1⟩
  have hq : 0 < q := by rw [← ho.len]; exact cutS_pos s 35
  obtain ⟨b, oo, p0, rfl, hp0, c0⟩ := (ho.rd stV_len).st (i := 0) hq
  rw [Nat.add_zero] at c0
  have s0 := cutS_size (List.mem_of_getElem? hp0)
  have HP := Lib.hid hp0
  clear hp0 ho
  go_wp2_with fail
  refine (l1Seal_any p0 _ (by omega)).mono ?_
  rintro e w2 ⟨rfl, b2⟩
  have t2 := below_trans b1 b2
  by_cases he : sealS p0 = s
  · have ht := bytes_eq_t he
    have E := Lib.hid (verP_yes H4.out HP.out he)
    clear he
    go_wp2
    go_ret2
    exact ⟨by rw [E.out]; rfl, t2⟩
  · have ht := bytes_eq_f he
    have E := Lib.hid (verP_no HP.out he)
    clear he
    go_wp2
    go_ret2
    exact ⟨by rw [E.out]; rfl, t2⟩

theorem Cut_any (s : ByteArray) (b : UInt8) (mx : Int) (w : World) (hs : s.size ≤ 4194304) (hM : w.cell? ⟨0, 0, none⟩ = some (.int .i64 mx)) :
    Calls Tryz.prog 21 #[.string s, .string ⟨#[b]⟩] w fun e w' => e = .returned (.tuple #[.string (cutA s b), .string (cutB s b), .bool (cutG s b)]) ∧ Below w.heap.size w w' := by
  refine (Tryz.strings_Cut s ⟨#[b]⟩ mx w (by omega) hM).mono ?_
  rintro e w' ⟨rfl, n, rfl⟩
  exact ⟨rfl, below_drewNT _ _⟩

set_option maxRecDepth 100000 in
set_option maxHeartbeats 1000000 in
theorem verI_any (s : ByteArray) (mx : Int) (w : World) (hs : s.size ≤ 1048576) (hM : w.cell? ⟨0, 0, none⟩ = some (.int .i64 mx)) (hT : Lib.TabIs Tryz.prog w "internal/strconv.uint64pow10" .u64 Lib.pow10Tab) :
    Calls Tryz.prog 20 #[.string s] w fun e w' => e = .returned (.tuple #[.string (verI s).1, .bool (verI s).2]) ∧ Below w.heap.size w w' := by
  have HT := Lib.hid hT
  have CC := Lib.hid (Cut_any s 35 mx w (by omega) hM)
  have hz := cutA_size s 35
  have HV : Hid (verI s = if cutG s 35 = true ∧ appG (cutA s 35) = true ∧ appS (cutA s 35) = s then (cutA s 35, true) else (⟨#[]⟩, false)) := rfl
  generalize cutA s 35 = ta at *
  generalize cutB s 35 = tb at *
  generalize cutG s 35 = tg at *
  clear hM hT
  go_enter Tryz.func20, Tryz.ntmps20
  go_wp2_with fail
  refine CC.out.mono ?_
  rintro e w1 ⟨rfl, b1⟩
  cases tg
  · have E : Hid (verI s = (⟨#[]⟩, false)) := by show _ = _; rw [HV.out, if_neg (by rintro ⟨e, _⟩; cases e)]
    go_wp2
    go_ret2
    exact ⟨by rw [E.out]; rfl, b1⟩
  go_wp2_with fail
  refine (AppendChecksum_any ta _ (by omega) (pow10_below HT.out b1)).mono ?_
  rintro e w2 ⟨rfl, b2⟩
  have t2 := below_trans b1 b2
  cases hg : appG ta
  · have E : Hid (verI s = (⟨#[]⟩, false)) := by show _ = _; rw [HV.out, hg, if_neg (by rintro ⟨_, e, _⟩; cases e)]
    clear hg
    go_wp2
    go_ret2
    exact ⟨by rw [E.out]; rfl, t2⟩
  by_cases he : appS ta = s
  · have ht := bytes_eq_t he
    have E : Hid (verI s = (ta, true)) := by show _ = _; rw [HV.out]; simp [hg, he]
    clear he hg
    go_wp2
    go_ret2
    exact ⟨by rw [E.out]; rfl, t2⟩
  · have ht := bytes_eq_f he
    have E : Hid (verI s = (⟨#[]⟩, false)) := by show _ = _; rw [HV.out, if_neg (fun h => he h.2.2)]
    clear he hg
    go_wp2
    go_ret2
    exact ⟨by rw [E.out]; rfl, t2⟩

theorem dig2_bad {s : ByteArray} (h2 : 2 ≤ s.size) (h : (s[0].toNat : Int) < 48 ∨ 57 < (s[0].toNat : Int) ∨ (s[1].toNat : Int) < 48 ∨ 57 < (s[1].toNat : Int)) : dig2 s = 99 := by unfold dig2; rw [dif_pos h2, if_pos h]
theorem dig2_good {s : ByteArray} (h2 : 2 ≤ s.size) (h : ¬ ((s[0].toNat : Int) < 48 ∨ 57 < (s[0].toNat : Int) ∨ (s[1].toNat : Int) < 48 ∨ 57 < (s[1].toNat : Int))) : dig2 s = 10 * ((s[0].toNat : Int) - 48) + (s[1].toNat : Int) - 48 := by unfold dig2; rw [dif_pos h2, if_neg h]
set_option maxRecDepth 100000 in
set_option maxHeartbeats 1000000 in
theorem l5Digits_any (s : ByteArray) (w : World) (h2 : s.size = 2) : Calls Tryz.prog 26 #[.string s] w fun e w' => e = .returned (.int .i64 (dig2 s)) ∧ ∃ n, w' = w.drewN n := by
  have h2' : 2 ≤ s.size := by omega
  have k0 : 0 < s.size := by omega
  have k1 : 1 < s.size := by omega
  have H2 := Lib.hid h2
  clear h2
  by_cases a1 : (s[0].toNat : Int) < 48
  · have E := Lib.hid (dig2_bad h2' (.inl a1))
    go_enter Tryz.func26, Tryz.ntmps26
    go_wp2
    go_ret
    exact ⟨ret_int E.out.symm, 0, rfl⟩
  by_cases a2 : 57 < (s[0].toNat : Int)
  · have E := Lib.hid (dig2_bad h2' (.inr (.inl a2)))
    go_enter Tryz.func26, Tryz.ntmps26
    go_wp2
    go_ret
    exact ⟨ret_int E.out.symm, 0, rfl⟩
  by_cases a3 : (s[1].toNat : Int) < 48
  · have E := Lib.hid (dig2_bad h2' (.inr (.inr (.inl a3))))
    go_enter Tryz.func26, Tryz.ntmps26
    go_wp2
    go_ret
    exact ⟨ret_int E.out.symm, 0, rfl⟩
  by_cases a4 : 57 < (s[1].toNat : Int)
  · have E := Lib.hid (dig2_bad h2' (.inr (.inr (.inr a4))))
    go_enter Tryz.func26, Tryz.ntmps26
    go_wp2
    go_ret
    exact ⟨ret_int E.out.symm, 0, rfl⟩
  have E := Lib.hid (dig2_good h2' (by omega))
  have v1 : IntKind.i64.wrap ((s[0].toNat : Int) - 48) = (s[0].toNat : Int) - 48 := IntWalk.i64_in _ (by omega)
  have v2 : IntKind.i64.wrap (10 * ((s[0].toNat : Int) - 48)) = 10 * ((s[0].toNat : Int) - 48) := IntWalk.i64_in _ (by omega)
  have v3 : IntKind.i64.wrap (10 * ((s[0].toNat : Int) - 48) + (s[1].toNat : Int)) = 10 * ((s[0].toNat : Int) - 48) + (s[1].toNat : Int) := IntWalk.i64_in _ (by omega)
  have v4 : IntKind.i64.wrap (10 * ((s[0].toNat : Int) - 48) + (s[1].toNat : Int) - 48) = 10 * ((s[0].toNat : Int) - 48) + (s[1].toNat : Int) - 48 := IntWalk.i64_in _ (by omega)
  go_enter Tryz.func26, Tryz.ntmps26
  go_wp2_with fail
  go_quiet (fail)
  go_wp2
  go_ret
  exact ⟨ret_int E.out.symm, _, rfl⟩

/-- A new block of two cells, both stored. -/
theorem two_cells {w1 wx : World} {T : TypeId} {z0 z1 v0 v1 : Value} (hh : wx.heap = (w1.alloc (.cells #[z0, z1] T)).heap) (ho : wx.os = w1.os) (ht : wx.tape = w1.tape) (hp : wx.output = w1.output) :
    ((wx.setCell ⟨w1.heap.size, 0, none⟩ v0).setCell ⟨w1.heap.size, 1, none⟩ v1).heap[w1.heap.size]? = some (.cells #[v0, v1] T (0, 0)) ∧ Below w1.heap.size w1 ((wx.setCell ⟨w1.heap.size, 0, none⟩ v0).setCell ⟨w1.heap.size, 1, none⟩ v1) := by
  have hn : wx.heap[w1.heap.size]? = some (.cells #[z0, z1] T (0, 0)) := by rw [hh]; exact heap_new rfl
  refine ⟨by simp [World.setCell, Array.getElem?_modify, hn], ?_⟩
  have hb : Below w1.heap.size w1 wx := ⟨ho, ht, hp, by rw [hh]; simp, fun i hi => by rw [hh]; exact (below_alloc (w := w1) (.cells #[z0, z1] T)).block i hi⟩
  exact below_setCell (below_setCell hb _ _ _ (Nat.le_refl _)) _ _ _ (Nat.le_refl _)

set_option maxRecDepth 100000 in
set_option maxHeartbeats 1000000 in
theorem specParseSlip_any (s : ByteArray) (w : World) (hs : s.size ≤ 1048576) : Calls Tryz.prog 10 #[.string s] w fun e w' => e = .returned (.tuple #[.agg #[.int .i64 (parB s).1.code, .string (parB s).1.ch], .bool (parB s).2]) ∧ Below w.heap.size w w' := by
  have b0 := below_alloc (w := w) (.cells #[.int .i64 0, .string ⟨#[]⟩] 25)
  have orr : Own baV 2 (w.alloc (.cells #[.int .i64 0, .string ⟨#[]⟩] 25)) w.heap.size 25 (some ⟨w.heap.size, 0, none⟩) 1 1 [⟨0, ⟨#[]⟩⟩] := ⟨rfl, rfl, .inr ⟨_, _, _, rfl, Nat.le_refl _, heap_new rfl, by omega, by simp [maxLen], rfl, rfl⟩⟩
  have hsz0 : (w.alloc (.cells #[.int .i64 0, .string ⟨#[]⟩] 25)).heap.size = w.heap.size + 1 := by simp
  obtain ⟨t, gg, hP⟩ : ∃ t gg, verP s = (t, gg) := ⟨_, _, rfl⟩
  have hz := verP_size s
  rw [hP] at hz
  dsimp only at hz
  have CV : Hid (∀ w, Calls Tryz.prog 25 #[.string s] w fun e w' => e = .returned (.tuple #[.string t, .bool gg]) ∧ Below w.heap.size w w') := fun w => by
    have h9 := verP_any s w hs
    rw [hP] at h9
    exact h9
  have HV : Hid (∀ y, bOK y = true → slipS y = s → t = bodyS y ∧ gg = true) := fun y hy e => by
    have h9 := verP_slip hy
    rw [e, hP] at h9
    injection h9 with h1 h2
    exact ⟨h1, h2⟩
  clear hP
  go_enter Tryz.func10, Tryz.ntmps10
  go_wp2_with fail
  refine (CV.out _).mono ?_
  rintro e w1 ⟨rfl, b1⟩
  have t1 := below_trans b0 b1
  replace orr := orr.below b1
  have hsz1 : w.heap.size < w1.heap.size := by have := b1.size; omega
  clear CV
  cases gg
  · have E := Lib.hid (parB_none (s := s) (fun y hy e => by have h9 := (HV.out y hy e).2; cases h9))
    have z0 := orr.cell baV_len (i := 0) (j := 0) rfl rfl
    have z1 := orr.cell baV_len (i := 0) (j := 1) rfl rfl
    have f0 := orr.frozen 0
    have f1 := orr.frozen 1
    simp only [Nat.zero_mul, Nat.zero_add] at z0 z1
    go_wp2
    exact bodyPost_ret (v := .tuple #[.agg #[.int .i64 0, .string ⟨#[]⟩], .bool false]) (by simp [results, Tryz.results10, go_sem, z0, z1]) rfl ⟨by rw [E.out], below_setCell (below_setCell t1 _ _ _ (Nat.le_refl _)) _ _ _ (Nat.le_refl _)⟩
  by_cases h6 : 6 ≤ t.size
  rotate_left
  · have h6' : (t.size : Int) < 6 := by omega
    have H6 := Lib.hid h6
    clear h6
    have E := Lib.hid (parB_none (s := s) (fun y hy e => by have h9 := (HV.out y hy e).1; have := body_ge hy; rw [← h9] at this; exact H6.out this))
    have z0 := orr.cell baV_len (i := 0) (j := 0) rfl rfl
    have z1 := orr.cell baV_len (i := 0) (j := 1) rfl rfl
    have f0 := orr.frozen 0
    have f1 := orr.frozen 1
    simp only [Nat.zero_mul, Nat.zero_add] at z0 z1
    go_wp2
    exact bodyPost_ret (v := .tuple #[.agg #[.int .i64 0, .string ⟨#[]⟩], .bool false]) (by simp [results, Tryz.results10, go_sem, z0, z1]) rfl ⟨by rw [E.out], below_setCell (below_setCell t1 _ _ _ (Nat.le_refl _)) _ _ _ (Nat.le_refl _)⟩
  have hz1 : (t.extract 0 2).size = 2 := by rw [ByteArray.size_extract]; omega
  have hz2 : (t.extract 2 4).size = 2 := by rw [ByteArray.size_extract]; omega
  obtain ⟨a, ha⟩ : ∃ a, a = dig2 (t.extract 0 2) := ⟨_, rfl⟩
  obtain ⟨c, hc⟩ : ∃ c, c = dig2 (t.extract 2 4) := ⟨_, rfl⟩
  have ha1 := dig2_bd (t.extract 0 2)
  have hc1 := dig2_bd (t.extract 2 4)
  rw [← ha] at ha1
  rw [← hc] at hc1
  have CA : Hid (∀ w, Calls Tryz.prog 26 #[.string (t.extract 0 2)] w fun e w' => e = .returned (.int .i64 a) ∧ ∃ n, w' = w.drewN n) := fun w => by rw [ha]; exact l5Digits_any _ w hz1
  have CC : Hid (∀ w, Calls Tryz.prog 26 #[.string (t.extract 2 4)] w fun e w' => e = .returned (.int .i64 c) ∧ ∃ n, w' = w.drewN n) := fun w => by rw [hc]; exact l5Digits_any _ w hz2
  obtain ⟨N, hN⟩ : ∃ N, N = 100 * a + c := ⟨_, rfl⟩
  have v1 : IntKind.i64.wrap (100 * a) = 100 * a := IntWalk.i64_in _ (by omega)
  have v2 : IntKind.i64.wrap (100 * a + c) = N := by rw [hN]; exact IntWalk.i64_in _ (by omega)
  have l1 : 2 ≤ t.size := by omega
  have i1 : (2 : Int) ≤ (t.size : Int) := by omega
  have i2 : (4 : Int) ≤ (t.size : Int) := by omega
  have i3 : (5 : Int) ≤ (t.size : Int) := by omega
  have i4 : (2 : Int) ≤ 4 ∧ (4 : Int) ≤ (t.size : Int) := by omega
  have i5 : (5 : Int) ≤ (t.size : Int) ∧ (t.size : Int) ≤ (t.size : Int) := by omega
  have l2 : 4 ≤ t.size := by omega
  have l3 : 5 ≤ t.size := by omega
  have HNC0 : Hid (∀ y, bOK y = true → slipS y = s → (⟨N, chO (t.extract 5 t.size)⟩ : BA) = y) := fun y hy e => by
    have h9 := (HV.out y hy e).1
    have h8 : N = codB t := by rw [hN, ha, hc]; rfl
    rw [h8, h9, codB_of hy, body_x3, chO_of hy]
  have hch0 : (t.extract 5 t.size).size ≤ 1048576 := by rw [ByteArray.size_extract]; omega
  have HA1 := Lib.hid ha1
  have HC1 := Lib.hid hc1
  clear hz1 hz2 ha hc HV hN ha1 hc1
  have k0 : ∀ m, ((w1.drewN m).alloc (.cells #[.int .i64 0, .string ⟨#[]⟩] 25)).cell? ⟨w1.heap.size, 0, none⟩ = some (.int .i64 0) := fun m => cell_of_row _ w1.heap.size 0 _ _ _ (heap_new rfl)
  have k1 : ∀ m, ((w1.drewN m).alloc (.cells #[.int .i64 0, .string ⟨#[]⟩] 25)).cell? ⟨w1.heap.size, 1, none⟩ = some (.string ⟨#[]⟩) := fun m => cell_of_row _ w1.heap.size 1 _ _ _ (heap_new rfl)
  have kf : ∀ m o, ((w1.drewN m).alloc (.cells #[.int .i64 0, .string ⟨#[]⟩] 25)).frozen? ⟨w1.heap.size, o, none⟩ = false := fun m o => by
    have h : ((w1.drewN m).alloc (.cells #[.int .i64 0, .string ⟨#[]⟩] 25)).heap[w1.heap.size]? = some (.cells #[.int .i64 0, .string ⟨#[]⟩] 25 (0, 0)) := heap_new rfl
    unfold World.frozen?
    rw [h]
    simp
  go_upto_region 4 with fail
  go_cut [6] (fun s6 wy => (s6 = .pointer (some ⟨w1.heap.size, 0, none⟩) ∧ wy.heap[w1.heap.size]? = some (.cells #[.int .i64 N, .string (t.extract 5 t.size)] 25 (0, 0))) ∧ Below w1.heap.size w1 wy)
  case first =>
    go_region_law (first
      | (go_simp; go_at_call 26; ((with_reducible refine (CA.out _).mono ?_); rintro e wa ⟨rfl, n, rfl⟩))
      | (go_simp; go_at_call 26; ((with_reducible refine (CC.out _).mono ?_); rintro e wa ⟨rfl, n, rfl⟩)))
    all_goals (go_wp2_with fail; go_meet; refine ⟨⟨rfl, (two_cells (T := 25) (z0 := .int .i64 0) (z1 := .string ⟨#[]⟩) ?_ ?_ ?_ ?_).1⟩, (two_cells (T := 25) (z0 := .int .i64 0) (z1 := .string ⟨#[]⟩) ?_ ?_ ?_ ?_).2⟩ <;> rfl)
  case rest =>
  obtain ⟨w3, rfl⟩ : ∃ x : World, x = wc := ⟨_, rfl⟩
  obtain ⟨⟨rfl, hblk⟩, b3⟩ := hcut
  have t3 := below_trans t1 b3
  replace orr := orr.below b3
  obtain ⟨g, hg⟩ : ∃ g, g = w1.heap.size := ⟨_, rfl⟩
  rw [← hg] at hblk ⊢
  have hgw : w.heap.size < g := by omega
  have brr : Own baV 2 w3 w.heap.size 25 (some ⟨g, 0, none⟩) 1 1 [⟨N, t.extract 5 t.size⟩] := ⟨rfl, rfl, .inr ⟨_, _, _, rfl, Nat.le_of_lt hgw, hblk, by omega, by simp [maxLen], rfl, rfl⟩⟩
  generalize hch : t.extract 5 t.size = ch at *
  have HNC := HNC0
  clear HNC0 hch hblk CA CC v1 v2 hg k0 k1 kf i1 i2 i3 i4 i5
  have x0 := brr.cell baV_len (i := 0) (j := 0) rfl rfl
  have x1 := brr.cell baV_len (i := 0) (j := 1) rfl rfl
  simp only [Nat.zero_mul, Nat.zero_add] at x0 x1
  by_cases hd : ch = (⟨#[45]⟩ : ByteArray)
  · subst hd
    have xf := brr.frozen 1
    have HST := Lib.hid (brr.store baV_len (i := 0) (j := 1) rfl (by omega) ⟨N, ⟨#[]⟩⟩ (.string ⟨#[]⟩) rfl)
    have HN : Hid (∀ y, bOK y = true → slipS y = s → (⟨N, ⟨#[]⟩⟩ : BA) = y) := fun y hy e => HNC.out y hy e
    have hbz : BaSz ⟨N, ⟨#[]⟩⟩ := Nat.zero_le _
    clear HNC
    go_wp2_with fail
    have hst := HST.out
    simp only [Nat.zero_mul, Nat.zero_add] at hst
    generalize hw4 : w3.setCell ⟨g, 1, none⟩ (.string ⟨#[]⟩) = w4 at *
    clear hw4 HST xf
    obtain ⟨br4, hgr⟩ := hst
    replace orr := orr.grown hgr (.inr (by simp [blockOf]; omega))
    have t4 : Below w.heap.size w w4 := t3.trans (below_of_grown hgr t3.size (fun k hk => by injection hk with hk; omega))
    have x0 := br4.cell baV_len (i := 0) (j := 0) rfl rfl
    have x1 := br4.cell baV_len (i := 0) (j := 1) rfl rfl
    simp only [Nat.zero_mul, Nat.zero_add] at x0 x1
    refine (l20One_any ⟨N, ⟨#[]⟩⟩ _ hbz).mono ?_
    rintro e w5 ⟨rfl, b5⟩
    replace x0 := cell_below b5 x0
    replace x1 := cell_below b5 x1
    replace orr := orr.below b5
    have t5 := below_trans t4 b5
    cases htl : bOK ⟨N, ⟨#[]⟩⟩
    · have E := Lib.hid (parB_none (s := s) (fun y hy e => by have h9 := HN.out y hy e; rw [h9, hy] at htl; cases htl))
      have z0 := orr.cell baV_len (i := 0) (j := 0) rfl rfl
      have z1 := orr.cell baV_len (i := 0) (j := 1) rfl rfl
      have f0 := orr.frozen 0
      have f1 := orr.frozen 1
      simp only [Nat.zero_mul, Nat.zero_add] at z0 z1
      go_wp2
      exact bodyPost_ret (v := .tuple #[.agg #[.int .i64 0, .string ⟨#[]⟩], .bool false]) (by simp [results, Tryz.results10, go_sem, z0, z1]) rfl ⟨by rw [E.out], below_setCell (below_setCell t5 _ _ _ (Nat.le_refl _)) _ _ _ (Nat.le_refl _)⟩
    have HTL := Lib.hid htl
    clear htl
    go_wp2_with fail
    refine (l20Slip_any ⟨N, ⟨#[]⟩⟩ _ HTL.out).mono ?_
    rintro e w6 ⟨rfl, b6⟩
    replace x0 := cell_below b6 x0
    replace x1 := cell_below b6 x1
    replace orr := orr.below b6
    have t6 := below_trans t5 b6
    by_cases hce : slipS ⟨N, ⟨#[]⟩⟩ = s
    · have hcb := bytes_eq_t hce
      have E := Lib.hid (parB_hit HTL.out hce)
      clear hce
      have z0 := orr.cell baV_len (i := 0) (j := 0) rfl rfl
      have z1 := orr.cell baV_len (i := 0) (j := 1) rfl rfl
      have f0 := orr.frozen 0
      have f1 := orr.frozen 1
      simp only [Nat.zero_mul, Nat.zero_add] at z0 z1
      go_wp2
      exact bodyPost_ret (v := .tuple #[.agg #[.int .i64 N, .string ⟨#[]⟩], .bool true]) (by simp [results, Tryz.results10, go_sem, z0, z1]) rfl ⟨by rw [E.out], below_setCell (below_setCell t6 _ _ _ (Nat.le_refl _)) _ _ _ (Nat.le_refl _)⟩
    · have hcb := bytes_eq_f hce
      have HCE := Lib.hid hce
      clear hce
      have E := Lib.hid (parB_none (s := s) (fun y hy e => by have h2 := HN.out y hy e; rw [h2] at HCE; exact HCE.out e))
      have z0 := orr.cell baV_len (i := 0) (j := 0) rfl rfl
      have z1 := orr.cell baV_len (i := 0) (j := 1) rfl rfl
      have f0 := orr.frozen 0
      have f1 := orr.frozen 1
      simp only [Nat.zero_mul, Nat.zero_add] at z0 z1
      go_wp2
      exact bodyPost_ret (v := .tuple #[.agg #[.int .i64 0, .string ⟨#[]⟩], .bool false]) (by simp [results, Tryz.results10, go_sem, z0, z1]) rfl ⟨by rw [E.out], below_setCell (below_setCell t6 _ _ _ (Nat.le_refl _)) _ _ _ (Nat.le_refl _)⟩
  · have hdb := bytes_eq_f hd
    have hd45 : (ch.toList == [45]) = false := by
      have e9 : (⟨#[45]⟩ : ByteArray).toList = [45] := by rw [ByteArray.toList_eq]
      rw [← e9]; exact hdb
    have HN : Hid (∀ y, bOK y = true → slipS y = s → (⟨N, ch⟩ : BA) = y) := fun y hy e => by
      have h9 := HNC.out y hy e
      rwa [show chO ch = ch from if_neg hd] at h9
    have hbz : BaSz ⟨N, ch⟩ := by show ch.size ≤ maxLen; unfold maxLen; omega
    clear HNC hd
    go_wp2_with fail
    have t4 := t3
    refine (l20One_any ⟨N, ch⟩ _ hbz).mono ?_
    rintro e w5 ⟨rfl, b5⟩
    replace x0 := cell_below b5 x0
    replace x1 := cell_below b5 x1
    replace orr := orr.below b5
    have t5 := below_trans t4 b5
    cases htl : bOK ⟨N, ch⟩
    · have E := Lib.hid (parB_none (s := s) (fun y hy e => by have h9 := HN.out y hy e; rw [h9, hy] at htl; cases htl))
      have z0 := orr.cell baV_len (i := 0) (j := 0) rfl rfl
      have z1 := orr.cell baV_len (i := 0) (j := 1) rfl rfl
      have f0 := orr.frozen 0
      have f1 := orr.frozen 1
      simp only [Nat.zero_mul, Nat.zero_add] at z0 z1
      go_wp2
      exact bodyPost_ret (v := .tuple #[.agg #[.int .i64 0, .string ⟨#[]⟩], .bool false]) (by simp [results, Tryz.results10, go_sem, z0, z1]) rfl ⟨by rw [E.out], below_setCell (below_setCell t5 _ _ _ (Nat.le_refl _)) _ _ _ (Nat.le_refl _)⟩
    have HTL := Lib.hid htl
    clear htl
    go_wp2_with fail
    refine (l20Slip_any ⟨N, ch⟩ _ HTL.out).mono ?_
    rintro e w6 ⟨rfl, b6⟩
    replace x0 := cell_below b6 x0
    replace x1 := cell_below b6 x1
    replace orr := orr.below b6
    have t6 := below_trans t5 b6
    by_cases hce : slipS ⟨N, ch⟩ = s
    · have hcb := bytes_eq_t hce
      have E := Lib.hid (parB_hit HTL.out hce)
      clear hce
      have z0 := orr.cell baV_len (i := 0) (j := 0) rfl rfl
      have z1 := orr.cell baV_len (i := 0) (j := 1) rfl rfl
      have f0 := orr.frozen 0
      have f1 := orr.frozen 1
      simp only [Nat.zero_mul, Nat.zero_add] at z0 z1
      go_wp2
      exact bodyPost_ret (v := .tuple #[.agg #[.int .i64 N, .string ch], .bool true]) (by simp [results, Tryz.results10, go_sem, z0, z1]) rfl ⟨by rw [E.out], below_setCell (below_setCell t6 _ _ _ (Nat.le_refl _)) _ _ _ (Nat.le_refl _)⟩
    · have hcb := bytes_eq_f hce
      have HCE := Lib.hid hce
      clear hce
      have E := Lib.hid (parB_none (s := s) (fun y hy e => by have h2 := HN.out y hy e; rw [h2] at HCE; exact HCE.out e))
      have z0 := orr.cell baV_len (i := 0) (j := 0) rfl rfl
      have z1 := orr.cell baV_len (i := 0) (j := 1) rfl rfl
      have f0 := orr.frozen 0
      have f1 := orr.frozen 1
      simp only [Nat.zero_mul, Nat.zero_add] at z0 z1
      go_wp2
      exact bodyPost_ret (v := .tuple #[.agg #[.int .i64 0, .string ⟨#[]⟩], .bool false]) (by simp [results, Tryz.results10, go_sem, z0, z1]) rfl ⟨by rw [E.out], below_setCell (below_setCell t6 _ _ _ (Nat.le_refl _)) _ _ _ (Nat.le_refl _)⟩

set_option maxRecDepth 100000 in
set_option maxHeartbeats 1000000 in
theorem implParseSlip_any (s : ByteArray) (mx : Int) (ev er : Value) (w : World) (hs : s.size ≤ 1048576) (hM : w.cell? ⟨0, 0, none⟩ = some (.int .i64 mx)) (hT : Lib.TabIs Tryz.prog w "internal/strconv.uint64pow10" .u64 Lib.pow10Tab)
    (hE : w.cell? ⟨1, 0, none⟩ = some ev) (hev : ev = .nilIface ∨ ∃ te pe, ev = .iface te pe) (hR : w.cell? ⟨2, 0, none⟩ = some er) (her : er = .nilIface ∨ ∃ te pe, er = .iface te pe) :
    Calls Tryz.prog 8 #[.string s] w fun e w' => e = .returned (.tuple #[.agg #[.int .i64 (parB s).1.code, .string (parB s).1.ch], .bool (parB s).2]) ∧ Below w.heap.size w w' := by
  have HM := Lib.hid hM
  have HT := Lib.hid hT
  have HE := Lib.hid hE
  have HR := Lib.hid hR
  have HEV := Lib.hid hev
  have HER := Lib.hid her
  clear hM hT hE hR hev her
  have b0 := below_alloc (w := w) (.cells #[.int .i64 0, .string ⟨#[]⟩] 25)
  have orr : Own baV 2 (w.alloc (.cells #[.int .i64 0, .string ⟨#[]⟩] 25)) w.heap.size 25 (some ⟨w.heap.size, 0, none⟩) 1 1 [⟨0, ⟨#[]⟩⟩] := ⟨rfl, rfl, .inr ⟨_, _, _, rfl, Nat.le_refl _, heap_new rfl, by omega, by simp [maxLen], rfl, rfl⟩⟩
  have hsz0 : (w.alloc (.cells #[.int .i64 0, .string ⟨#[]⟩] 25)).heap.size = w.heap.size + 1 := by simp
  obtain ⟨t, gg, hP⟩ : ∃ t gg, verI s = (t, gg) := ⟨_, _, rfl⟩
  have hz := verI_size s
  rw [hP] at hz
  dsimp only at hz
  have CV : Hid (∀ w1, Below w.heap.size w w1 → Calls Tryz.prog 20 #[.string s] w1 fun e w' => e = .returned (.tuple #[.string t, .bool gg]) ∧ Below w1.heap.size w1 w') := fun w1 hb => by
    have h9 := verI_any s mx w1 hs (cell_below hb HM.out) (pow10_below HT.out hb)
    rw [hP] at h9
    exact h9
  have HV : Hid (∀ y, bOK y = true → slipS y = s → t = bodyS y ∧ gg = true) := fun y hy e => by
    have h9 := verI_slip hy
    rw [e, hP] at h9
    injection h9 with h1 h2
    exact ⟨h1, h2⟩
  have hza := cutA_size t 32
  have hzb := cutB_size t 32
  have CC : Hid (∀ w1, Below w.heap.size w w1 → Calls Tryz.prog 21 #[.string t, .string ⟨#[32]⟩] w1 fun e w' => e = .returned (.tuple #[.string (cutA t 32), .string (cutB t 32), .bool (cutG t 32)]) ∧ Below w1.heap.size w1 w') := fun w1 hb => Cut_any t 32 mx w1 (by omega) (cell_below hb HM.out)
  have HVC : Hid (∀ y, bOK y = true → slipS y = s → cutA t 32 = d4 y.code.toNat ∧ cutB t 32 = chS y) := fun y hy e => by
    have h9 := (HV.out y hy e).1
    obtain ⟨h0, h1, _⟩ := bOK_sz hy
    have h8 := cuts_app (u := d4 y.code.toNat) (r := chS y) (b := 32) (d4_not (by omega) (by decide))
    rw [h9]
    exact ⟨h8.1, h8.2.1⟩
  generalize cutA t 32 = fi at *
  generalize cutB t 32 = ch at *
  generalize cutG t 32 = cg at *
  clear hP
  go_enter Tryz.func8, Tryz.ntmps8
  go_wp2_with fail
  refine (CV.out _ b0).mono ?_
  rintro e w1 ⟨rfl, b1⟩
  have t1 := below_trans b0 b1
  replace orr := orr.below b1
  have hsz1 : w.heap.size < w1.heap.size := by have := b1.size; omega
  go_wp2_with fail
  refine (CC.out _ t1).mono ?_
  rintro e w2 ⟨rfl, b2⟩
  have t2 := below_trans t1 b2
  replace orr := orr.below b2
  have hsz2 : w.heap.size < w2.heap.size := by have := b2.size; omega
  clear CV CC
  have ERRS : Hid (∀ st, st = Lib.atoiAll fi.data.toList → (∀ v, st ≠ .ok v) → Calls Tryz.prog 22 #[.string fi] w2 fun e w' => (∃ v T N, e = .returned (.tuple #[.int .i64 v, .iface T (.pointer (some ⟨N, 0, none⟩))])) ∧ Below w2.heap.size w2 w') := fun st hst hno => by
    cases st with
    | ok v => exact absurd rfl (hno v)
    | «syntax» =>
      refine (Tryz.strconv_Atoi_syntax fi (by omega) hst.symm ev w2 (cell_below t2 HE.out) HEV.out).mono ?_
      rintro e w' ⟨N, rfl, -, -, b⟩
      exact ⟨⟨_, _, _, rfl⟩, b⟩
    | range =>
      refine (Tryz.strconv_Atoi_range fi (by omega) hst.symm er w2 (cell_below t2 HR.out) HER.out).mono ?_
      rintro e w' ⟨N, rfl, -, -, b⟩
      exact ⟨⟨_, _, _, rfl⟩, b⟩
  by_cases hok : ∃ v, Lib.atoiAll fi.data.toList = .ok v
  rotate_left
  · have HNO := Lib.hid hok
    clear hok
    go_wp2_with fail
    refine (ERRS.out _ rfl (fun v e => HNO.out ⟨v, e⟩)).mono ?_
    rintro e w3 ⟨⟨v, T, N0, rfl⟩, b3⟩
    have t3 := below_trans t2 b3
    replace orr := orr.below b3
    clear ERRS
    cases gg
    · have E := Lib.hid (parB_none (s := s) (fun y hy e => by have h9 := (HVC.out y hy e).1; have h8 := bOK_sz hy; exact HNO.out ⟨_, by rw [h9]; exact atoi_d4 (by omega)⟩))
      have z0 := orr.cell baV_len (i := 0) (j := 0) rfl rfl
      have z1 := orr.cell baV_len (i := 0) (j := 1) rfl rfl
      have f0 := orr.frozen 0
      have f1 := orr.frozen 1
      simp only [Nat.zero_mul, Nat.zero_add] at z0 z1
      go_wp2
      exact bodyPost_ret (v := .tuple #[.agg #[.int .i64 0, .string ⟨#[]⟩], .bool false]) (by simp [results, Tryz.results8, go_sem, z0, z1]) rfl ⟨by rw [E.out], below_setCell (below_setCell t3 _ _ _ (Nat.le_refl _)) _ _ _ (Nat.le_refl _)⟩
    · have E := Lib.hid (parB_none (s := s) (fun y hy e => by have h9 := (HVC.out y hy e).1; have h8 := bOK_sz hy; exact HNO.out ⟨_, by rw [h9]; exact atoi_d4 (by omega)⟩))
      have z0 := orr.cell baV_len (i := 0) (j := 0) rfl rfl
      have z1 := orr.cell baV_len (i := 0) (j := 1) rfl rfl
      have f0 := orr.frozen 0
      have f1 := orr.frozen 1
      simp only [Nat.zero_mul, Nat.zero_add] at z0 z1
      go_wp2
      exact bodyPost_ret (v := .tuple #[.agg #[.int .i64 0, .string ⟨#[]⟩], .bool false]) (by simp [results, Tryz.results8, go_sem, z0, z1]) rfl ⟨by rw [E.out], below_setCell (below_setCell t3 _ _ _ (Nat.le_refl _)) _ _ _ (Nat.le_refl _)⟩
  obtain ⟨N, hN⟩ := hok
  have CA := Lib.hid (Tryz.strconv_Atoi_ok fi (by omega) N hN w2)
  have HNN := Lib.hid hN
  clear hN ERRS
  go_wp2_with fail
  refine CA.out.mono ?_
  rintro e w2' ⟨rfl, hw2⟩
  have b2' : Below w2.heap.size w2 w2' := by
    rcases hw2 with h | ⟨t9, h⟩
    · rw [h]; exact Below.refl _ _
    · rw [h]; exact Lib.bytesWorld_below _ _ _
  clear hw2 CA
  have t2' := below_trans t2 b2'
  replace orr := orr.below b2'
  have hsz3 : w.heap.size < w2'.heap.size := by have := b2'.size; omega
  cases gg
  · have E := Lib.hid (parB_none (s := s) (fun y hy e => by have h9 := (HV.out y hy e).2; cases h9))
    have z0 := orr.cell baV_len (i := 0) (j := 0) rfl rfl
    have z1 := orr.cell baV_len (i := 0) (j := 1) rfl rfl
    have f0 := orr.frozen 0
    have f1 := orr.frozen 1
    simp only [Nat.zero_mul, Nat.zero_add] at z0 z1
    go_wp2
    exact bodyPost_ret (v := .tuple #[.agg #[.int .i64 0, .string ⟨#[]⟩], .bool false]) (by simp [results, Tryz.results8, go_sem, z0, z1]) rfl ⟨by rw [E.out], below_setCell (below_setCell t2' _ _ _ (Nat.le_refl _)) _ _ _ (Nat.le_refl _)⟩
  have HNC : Hid (∀ y, bOK y = true → slipS y = s → (⟨N, chO ch⟩ : BA) = y) := fun y hy e => by
    obtain ⟨h8, h9⟩ := HVC.out y hy e
    have h7 := bOK_sz hy
    have h6 := HNN.out
    rw [h8, atoi_d4 (by omega)] at h6
    injection h6 with h6
    rw [h9, chO_of hy, ← h6]
    have h5 : ((y.code.toNat : Nat) : Int) = y.code := Int.toNat_of_nonneg (by omega)
    rw [h5]
  clear HNN HVC HV
  have hch : ch.size ≤ 1048576 := by omega
  obtain ⟨g, hg⟩ : ∃ g, g = w2'.heap.size := ⟨_, rfl⟩
  have hgw : w.heap.size < g := by omega
  have b3 := below_alloc (w := w2') (.cells #[.int .i64 N, .string ch] 25)
  have brr : Own baV 2 (w2'.alloc (.cells #[.int .i64 N, .string ch] 25)) w.heap.size 25 (some ⟨g, 0, none⟩) 1 1 [⟨N, ch⟩] := ⟨rfl, rfl, .inr ⟨_, _, _, rfl, Nat.le_of_lt hgw, heap_new hg, by omega, by simp [maxLen], rfl, rfl⟩⟩
  replace orr := orr.below b3
  have t3 := below_trans t2' b3
  go_upto_region 7 with fail
  rw [← hg]
  generalize hw3 : w2'.alloc (.cells #[.int .i64 N, .string ch] 25) = w3 at *
  clear hw3 hg
  have x0 := brr.cell baV_len (i := 0) (j := 0) rfl rfl
  have x1 := brr.cell baV_len (i := 0) (j := 1) rfl rfl
  simp only [Nat.zero_mul, Nat.zero_add] at x0 x1
  by_cases hd : ch = (⟨#[45]⟩ : ByteArray)
  · subst hd
    have xf := brr.frozen 1
    have HST := Lib.hid (brr.store baV_len (i := 0) (j := 1) rfl (by omega) ⟨N, ⟨#[]⟩⟩ (.string ⟨#[]⟩) rfl)
    have HN : Hid (∀ y, bOK y = true → slipS y = s → (⟨N, ⟨#[]⟩⟩ : BA) = y) := fun y hy e => HNC.out y hy e
    have hbz : BaSz ⟨N, ⟨#[]⟩⟩ := Nat.zero_le _
    clear HNC
    go_wp2_with fail
    have hst := HST.out
    simp only [Nat.zero_mul, Nat.zero_add] at hst
    generalize hw4 : w3.setCell ⟨g, 1, none⟩ (.string ⟨#[]⟩) = w4 at *
    clear hw4 HST xf
    obtain ⟨br4, hgr⟩ := hst
    replace orr := orr.grown hgr (.inr (by simp [blockOf]; omega))
    have t4 : Below w.heap.size w w4 := t3.trans (below_of_grown hgr t3.size (fun k hk => by injection hk with hk; omega))
    have x0 := br4.cell baV_len (i := 0) (j := 0) rfl rfl
    have x1 := br4.cell baV_len (i := 0) (j := 1) rfl rfl
    simp only [Nat.zero_mul, Nat.zero_add] at x0 x1
    refine (isBallot_any ⟨N, ⟨#[]⟩⟩ _ hbz).mono ?_
    rintro e w5 ⟨rfl, b5⟩
    replace x0 := cell_below b5 x0
    replace x1 := cell_below b5 x1
    replace orr := orr.below b5
    have t5 := below_trans t4 b5
    cases htl : bOK ⟨N, ⟨#[]⟩⟩
    · have E := Lib.hid (parB_none (s := s) (fun y hy e => by have h9 := HN.out y hy e; rw [h9, hy] at htl; cases htl))
      have z0 := orr.cell baV_len (i := 0) (j := 0) rfl rfl
      have z1 := orr.cell baV_len (i := 0) (j := 1) rfl rfl
      have f0 := orr.frozen 0
      have f1 := orr.frozen 1
      simp only [Nat.zero_mul, Nat.zero_add] at z0 z1
      go_wp2
      exact bodyPost_ret (v := .tuple #[.agg #[.int .i64 0, .string ⟨#[]⟩], .bool false]) (by simp [results, Tryz.results8, go_sem, z0, z1]) rfl ⟨by rw [E.out], below_setCell (below_setCell t5 _ _ _ (Nat.le_refl _)) _ _ _ (Nat.le_refl _)⟩
    have HTL := Lib.hid htl
    clear htl
    go_wp2_with fail
    refine (slipText_any ⟨N, ⟨#[]⟩⟩ _ HTL.out (pow10_below HT.out t5)).mono ?_
    rintro e w6 ⟨rfl, b6⟩
    replace x0 := cell_below b6 x0
    replace x1 := cell_below b6 x1
    replace orr := orr.below b6
    have t6 := below_trans t5 b6
    by_cases hce : slipS ⟨N, ⟨#[]⟩⟩ = s
    · have hcb := bytes_eq_t hce
      have E := Lib.hid (parB_hit HTL.out hce)
      clear hce
      have z0 := orr.cell baV_len (i := 0) (j := 0) rfl rfl
      have z1 := orr.cell baV_len (i := 0) (j := 1) rfl rfl
      have f0 := orr.frozen 0
      have f1 := orr.frozen 1
      simp only [Nat.zero_mul, Nat.zero_add] at z0 z1
      go_wp2
      exact bodyPost_ret (v := .tuple #[.agg #[.int .i64 N, .string ⟨#[]⟩], .bool true]) (by simp [results, Tryz.results8, go_sem, z0, z1]) rfl ⟨by rw [E.out], below_setCell (below_setCell t6 _ _ _ (Nat.le_refl _)) _ _ _ (Nat.le_refl _)⟩
    · have hcb := bytes_eq_f hce
      have HCE := Lib.hid hce
      clear hce
      have E := Lib.hid (parB_none (s := s) (fun y hy e => by have h2 := HN.out y hy e; rw [h2] at HCE; exact HCE.out e))
      have z0 := orr.cell baV_len (i := 0) (j := 0) rfl rfl
      have z1 := orr.cell baV_len (i := 0) (j := 1) rfl rfl
      have f0 := orr.frozen 0
      have f1 := orr.frozen 1
      simp only [Nat.zero_mul, Nat.zero_add] at z0 z1
      go_wp2
      exact bodyPost_ret (v := .tuple #[.agg #[.int .i64 0, .string ⟨#[]⟩], .bool false]) (by simp [results, Tryz.results8, go_sem, z0, z1]) rfl ⟨by rw [E.out], below_setCell (below_setCell t6 _ _ _ (Nat.le_refl _)) _ _ _ (Nat.le_refl _)⟩
  · have hdb := bytes_eq_f hd
    have hd45 : (ch.toList == [45]) = false := by
      have e9 : (⟨#[45]⟩ : ByteArray).toList = [45] := by rw [ByteArray.toList_eq]
      rw [← e9]; exact hdb
    have HN : Hid (∀ y, bOK y = true → slipS y = s → (⟨N, ch⟩ : BA) = y) := fun y hy e => by
      have h9 := HNC.out y hy e
      rwa [show chO ch = ch from if_neg hd] at h9
    have hbz : BaSz ⟨N, ch⟩ := by show ch.size ≤ maxLen; unfold maxLen; omega
    clear HNC hd
    go_wp2_with fail
    have t4 := t3
    refine (isBallot_any ⟨N, ch⟩ _ hbz).mono ?_
    rintro e w5 ⟨rfl, b5⟩
    replace x0 := cell_below b5 x0
    replace x1 := cell_below b5 x1
    replace orr := orr.below b5
    have t5 := below_trans t4 b5
    cases htl : bOK ⟨N, ch⟩
    · have E := Lib.hid (parB_none (s := s) (fun y hy e => by have h9 := HN.out y hy e; rw [h9, hy] at htl; cases htl))
      have z0 := orr.cell baV_len (i := 0) (j := 0) rfl rfl
      have z1 := orr.cell baV_len (i := 0) (j := 1) rfl rfl
      have f0 := orr.frozen 0
      have f1 := orr.frozen 1
      simp only [Nat.zero_mul, Nat.zero_add] at z0 z1
      go_wp2
      exact bodyPost_ret (v := .tuple #[.agg #[.int .i64 0, .string ⟨#[]⟩], .bool false]) (by simp [results, Tryz.results8, go_sem, z0, z1]) rfl ⟨by rw [E.out], below_setCell (below_setCell t5 _ _ _ (Nat.le_refl _)) _ _ _ (Nat.le_refl _)⟩
    have HTL := Lib.hid htl
    clear htl
    go_wp2_with fail
    refine (slipText_any ⟨N, ch⟩ _ HTL.out (pow10_below HT.out t5)).mono ?_
    rintro e w6 ⟨rfl, b6⟩
    replace x0 := cell_below b6 x0
    replace x1 := cell_below b6 x1
    replace orr := orr.below b6
    have t6 := below_trans t5 b6
    by_cases hce : slipS ⟨N, ch⟩ = s
    · have hcb := bytes_eq_t hce
      have E := Lib.hid (parB_hit HTL.out hce)
      clear hce
      have z0 := orr.cell baV_len (i := 0) (j := 0) rfl rfl
      have z1 := orr.cell baV_len (i := 0) (j := 1) rfl rfl
      have f0 := orr.frozen 0
      have f1 := orr.frozen 1
      simp only [Nat.zero_mul, Nat.zero_add] at z0 z1
      go_wp2
      exact bodyPost_ret (v := .tuple #[.agg #[.int .i64 N, .string ch], .bool true]) (by simp [results, Tryz.results8, go_sem, z0, z1]) rfl ⟨by rw [E.out], below_setCell (below_setCell t6 _ _ _ (Nat.le_refl _)) _ _ _ (Nat.le_refl _)⟩
    · have hcb := bytes_eq_f hce
      have HCE := Lib.hid hce
      clear hce
      have E := Lib.hid (parB_none (s := s) (fun y hy e => by have h2 := HN.out y hy e; rw [h2] at HCE; exact HCE.out e))
      have z0 := orr.cell baV_len (i := 0) (j := 0) rfl rfl
      have z1 := orr.cell baV_len (i := 0) (j := 1) rfl rfl
      have f0 := orr.frozen 0
      have f1 := orr.frozen 1
      simp only [Nat.zero_mul, Nat.zero_add] at z0 z1
      go_wp2
      exact bodyPost_ret (v := .tuple #[.agg #[.int .i64 0, .string ⟨#[]⟩], .bool false]) (by simp [results, Tryz.results8, go_sem, z0, z1]) rfl ⟨by rw [E.out], below_setCell (below_setCell t6 _ _ _ (Nat.le_refl _)) _ _ _ (Nat.le_refl _)⟩

end Go.Proofs.YtcockjjilcapaaaGreatDoor
