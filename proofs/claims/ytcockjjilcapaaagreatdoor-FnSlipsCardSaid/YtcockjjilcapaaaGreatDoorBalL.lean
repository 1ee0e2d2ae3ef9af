/-
  YtcockjjilcapaaaGreatDoorBalL: ballots: LeadingChoice, both sides. (Printed by wip/gen/ball.py.)
-/
import Derived.Test.YtcockjjilcapaaaGreatDoorBalK
import Derived.Test.YtcockjjilcapaaaGreatDoorLeadM
namespace Go.Proofs.YtcockjjilcapaaaGreatDoor
open Go Go.RowKit Go.Sort
set_option linter.unusedVariables false

def leaS (l : List BA) (r : List Int) : LS := ldTo (couL l r) (couL l r).length
def leaB (l : List BA) (r : List Int) : Bool := !(leaS l r).tied
def leaC (l : List BA) (r : List Int) : ByteArray := if (leaS l r).tied then ⟨#[]⟩ else (leaS l r).best
def leaN (l : List BA) (r : List Int) : Int := if (leaS l r).tied then 0 else (leaS l r).most
theorem ret_sib {a a' : ByteArray} {b b' : Int} {x x' : Bool} (h1 : a = a') (h2 : b = b') (h3 : x = x') : Ending.returned (.tuple #[.string a, .int .i64 b, .bool x]) = .returned (.tuple #[.string a', .int .i64 b', .bool x']) := by rw [h1, h2, h3]
theorem lea_no {l : List BA} {r : List Int} (h : pollB l r = false) : leaB l r = false ∧ leaC l r = ⟨#[]⟩ ∧ leaN l r = 0 := by
  have : leaS l r = ⟨⟨#[]⟩, 0, true⟩ := by unfold leaS; rw [couL_no h]; rfl
  simp [leaB, leaC, leaN, this]
/-- The places of the greatest. -/
def winF (cs : List Int) (i : Nat) (x : Int) : Option Int := if x = Lib.maxOf cs then some (i : Int) else none
def wins (cs : List Int) : List Int := fm (winF cs) cs cs.length
theorem wins_len (cs : List Int) : (wins cs).length ≤ cs.length := fm_len _ _ _


set_option maxRecDepth 100000 in
set_option maxHeartbeats 1000000 in
theorem winners_any (A : Option Addr) (n c : Nat) (cs : List Int) (w : World) (ha : Rd inV 1 w A n c cs) (hn : n ≤ 1048576) :
    Calls Tryz.prog 30 #[.slice A n c] w fun e w' => (∃ B q d, e = .returned (.slice B q d) ∧ Own inV 1 w' w.heap.size 3 B q d (wins cs)) ∧ Below w.heap.size w w' := by
  obtain ⟨i0, hi, hz0, hz1, hz2⟩ := info_parts Tryz.infoIn2
  have HL := Lib.hid ha.len
  have oe := Own.empty inV 1 w 3
  go_enter Tryz.func30, Tryz.ntmps30
  go_wp2
  go_loopw [3, 9] (fun v kv wr => ∃ k : Nat, k ≤ n ∧ kv = .int .i64 k ∧ (∃ B q d, v = .slice B q d ∧ q ≤ k ∧ Own inV 1 wr w.heap.size 3 B q d (fm (winF cs) cs k)) ∧ Below w.heap.size w wr) (fun _ kv _ => n - (intOf kv).toNat)
  case atStart => exact ⟨0, Nat.zero_le _, rfl, ⟨_, 0, 0, rfl, Nat.le_refl _, oe⟩, below_alloc _⟩
  case round =>
    clear oe
    obtain ⟨k, hk, rfl, ⟨B, q, d, rfl, hq, ho⟩, hbw⟩ := hrel
    by_cases hlt : k < n
    · have har := ha.below hbw
      obtain ⟨b1, o1, y, rfl, hy, c0⟩ := har.in hlt
      have HY := Lib.hid hy
      have HO := Lib.hid ho
      have hcon := Tryz.slices_Max_int b1 o1 n c cs wr (by omega) (by rw [HL.out]; exact Nat.le_refl _) (by omega) (fun j hj => by
        obtain ⟨b', o', z, e, hz, cz⟩ := har.in (i := j) (by rw [← HL.out]; exact hj)
        injection e with e
        injection e with ea eb
        subst ea eb
        rw [cz]
        simp [List.getD, hz])
      rw [show cs.take n = cs by rw [List.take_of_length_le (by rw [HL.out]; exact Nat.le_refl _)]] at hcon
      clear hy ha har ho
      go_wp2_with fail
      refine hcon.mono ?_
      clear hcon
      rintro e w' ⟨rfl, hw'⟩
      replace hw' := hw'.symm
      subst hw'
      cases h5 : (y == Lib.maxOf cs)
      · have E := Lib.hid (fm_no (f := winF cs) HY.out (show _ = none by unfold winF; rw [if_neg (by simpa using h5)]))
        go_wp2
        go_roundw
        case rel => exact ⟨k + 1, by omega, by go_num, ⟨B, q, d, rfl, by omega, by rw [E.out]; exact HO.out⟩, hbw⟩
        case measure => first | (simp [intOf]; done) | (simp [intOf]; omega)
      · have E := Lib.hid (fm_yes (f := winF cs) HY.out (show _ = some (k : Int) by unfold winF; rw [if_pos (by simpa using h5)]))
        go_wp2_with (at_builtin; refine wpList_push rfl _ _ _ rfl w.heap.size 3 i0 (.int .i64 0) 1 8 Tryz.underlying33 hi hz0 hz1 hz2 rfl (by omega) inV inV_len one_int2 B q d _ rfl HO.out (k : Int) _ rfl _ rfl (by first | rfl | simp) (by simp only [maxLen]; omega) (by omega) hbw.size ?_; intro B3 d3 w3 ho3 hg3)
        go_roundw
        case rel => exact ⟨k + 1, by omega, by go_num, ⟨B3, q + 1, d3, rfl, by omega, by rw [E.out]; exact ho3⟩, below_push hbw HO.out hg3 (Nat.le_refl _)⟩
        case measure => first | (simp [intOf]; done) | (simp [intOf]; omega)
    · obtain rfl : k = n := by omega
      have E := Lib.hid (show wins cs = fm (winF cs) cs k by unfold wins; rw [HL.out])
      have HO := Lib.hid ho
      clear ha ho
      go_wp2
      go_ret
      exact ⟨⟨_, _, _, rfl, by rw [E.out]; exact HO.out⟩, hbw⟩


set_option maxRecDepth 100000 in
set_option maxHeartbeats 1000000 in
theorem specLead_any (A : Option Addr) (n c : Nat) (l : List BA) (B0 : Option Addr) (m d0 : Nat) (r : List Int) (w : World) (ha : Rd baV 2 w A n c l) (hb : Rd inV 1 w B0 m d0 r) (hn : n ≤ 1048576) (hg : ∀ x ∈ l, BaSz x) :
    Calls Tryz.prog 13 #[.slice A n c, .slice B0 m d0] w fun e w' => e = .returned (.tuple #[.string (leaC l r), .int .i64 (leaN l r), .bool (leaB l r)]) ∧ Below w.heap.size w w' := by
  have HL := Lib.hid ha.len
  go_enter Tryz.func13, Tryz.ntmps13
  go_wp2_with fail
  refine (l20Asked_any _ _ _ _ _ _ _ _ _ ha hb hg).mono ?_
  rintro e w1 ⟨rfl, b1⟩
  cases h1 : pollB l r
  · have E := Lib.hid (lea_no h1)
    clear ha hb
    go_wp2
    go_ret3
    exact ⟨ret_sib E.out.2.1.symm E.out.2.2.symm E.out.1.symm, b1⟩
  have E := Lib.hid h1
  clear h1
  go_wp2_with fail
  refine (l20Count_any _ _ _ l _ _ _ r _ (ha.below b1) (hb.below b1) hn).mono ?_
  rintro e w2 ⟨⟨A1, q, d1, A2, d2, rfl, o1, o2⟩, b2⟩
  have t2 := below_trans b1 b2
  have CE := Lib.hid (couL_yes E.out)
  rw [← CE.out] at o1 o2
  have hq : q ≤ n := by have h9 := o1.len; simp only [List.length_map] at h9; rw [← h9, ← HL.out]; exact couL_len l r
  have QL := Lib.hid (show (couL l r).length = q by have h9 := o1.len; simpa using h9)
  have PS : Hid (∀ p ∈ couL l r, 0 < p.2 ∧ p.2 ≤ 1048576) := fun p hp => by
    have h9 := hp
    rw [CE.out] at h9
    have h8 := cnt_le_len h9
    have h7 := chL_len l r
    rw [HL.out] at h7
    exact ⟨h8.1, by omega⟩
  have r1 := o1.rd stV_len
  have r2 := o2.rd inV_len
  clear ha hb o1 o2 b1 b2
  go_wp2
  go_loop [9, 10, 11, 12] (fun bv mv tv kv => ∃ (k : Nat) (s : LS), k ≤ q ∧ kv = .int .i64 k ∧ s = ldTo (couL l r) k ∧ bv = .string s.best ∧ mv = .int .i64 s.most ∧ tv = .bool s.tied) (fun _ _ _ kv => q - (intOf kv).toNat)
  case atStart => exact ⟨0, _, Nat.zero_le _, rfl, rfl, rfl, rfl, rfl⟩
  case round =>
    obtain ⟨k, s, hk, rfl, hs, rfl, rfl, rfl⟩ := hrel
    have HS := Lib.hid hs
    clear hs
    by_cases hlt : k < q
    · obtain ⟨b3, o3, y, rfl, hy, c0⟩ := r1.st hlt
      obtain ⟨b4, o4, v, rfl, hv, c1⟩ := r2.in hlt
      obtain ⟨p, hp⟩ : ∃ p, (couL l r)[k]? = some p := ⟨_, List.getElem?_eq_getElem (by rw [QL.out]; exact hlt)⟩
      obtain rfl : p.1 = y := by rw [List.getElem?_map, hp] at hy; injection hy
      obtain rfl : p.2 = v := by rw [List.getElem?_map, hp] at hv; injection hv
      have NX := Lib.hid (ldTo_next hp)
      have hpb := PS.out p (List.mem_of_getElem? hp)
      have hp0 := hpb.1
      clear hy hv hp hpb r1 r2
      by_cases h3 : s.most < p.2
      · have F : Hid (ldTo (couL l r) (k + 1) = ⟨p.1, p.2, false⟩) := by show _ = _; rw [NX.out, ← HS.out]; unfold ldStep; rw [if_pos h3]
        go_wp2
        go_round
        case rel => exact ⟨k + 1, ⟨p.1, p.2, false⟩, by omega, by go_num, F.out.symm, rfl, rfl, rfl⟩
        case measure => first | (simp [intOf]; done) | (simp [intOf]; omega)
      · by_cases h4 : p.2 = s.most
        · have F : Hid (ldTo (couL l r) (k + 1) = ⟨s.best, s.most, true⟩) := by show _ = _; rw [NX.out, ← HS.out]; unfold ldStep; rw [if_neg h3, if_pos h4]
          have h4' : (p.2 == s.most) = true := by simpa using h4
          clear h4
          go_wp2
          go_round
          case rel => exact ⟨k + 1, ⟨s.best, s.most, true⟩, by omega, by go_num, F.out.symm, rfl, rfl, rfl⟩
          case measure => first | (simp [intOf]; done) | (simp [intOf]; omega)
        · have F : Hid (ldTo (couL l r) (k + 1) = s) := by show _ = _; rw [NX.out, ← HS.out]; unfold ldStep; rw [if_neg h3, if_neg h4]
          have h4' : (p.2 == s.most) = false := by simpa using h4
          clear h4
          go_wp2
          go_round
          case rel => exact ⟨k + 1, s, by omega, by go_num, F.out.symm, rfl, rfl, rfl⟩
          case measure => first | (simp [intOf]; done) | (simp [intOf]; omega)
    · obtain rfl : k = q := by omega
      have LE := Lib.hid (show leaS l r = s by unfold leaS; rw [QL.out]; exact HS.out.symm)
      clear r1 r2
      cases ht : s.tied
      · have F : Hid (leaB l r = true ∧ leaC l r = s.best ∧ leaN l r = s.most) := by show _ ∧ _; simp [leaB, leaC, leaN, LE.out, ht]
        go_wp2
        go_ret3
        exact ⟨ret_sib F.out.2.1.symm F.out.2.2.symm F.out.1.symm, t2⟩
      · have F : Hid (leaB l r = false ∧ leaC l r = ⟨#[]⟩ ∧ leaN l r = 0) := by show _ ∧ _; simp [leaB, leaC, leaN, LE.out, ht]
        go_wp2
        go_ret3
        exact ⟨ret_sib F.out.2.1.symm F.out.2.2.symm F.out.1.symm, t2⟩


end Go.Proofs.YtcockjjilcapaaaGreatDoor
