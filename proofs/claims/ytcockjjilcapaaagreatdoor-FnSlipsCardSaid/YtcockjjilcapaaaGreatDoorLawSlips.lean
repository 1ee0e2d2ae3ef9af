/- FnSlips: for every code of at most 65536 bytes: SlipText, ParseSlip and LeadingChoice answer as the reference at what is drawn; ballots are recovered from their slips, and no choice has more ballots than the leading one. No condition.
-/
import Derived.Test.YtcockjjilcapaaaGreatDoorRead
import Derived.Test.YtcockjjilcapaaaGreatDoorCards
import Derived.Test.YtcockjjilcapaaaGreatDoorTie
import Derived.ProofKit
import Derived.LaidMore
import Derived.OpenShut
import Derived.Stop.Joined
import Derived.SevenTiedAt
import Derived.Test.YtcockjjilcapaaaGreatDoorDoor
import Derived.Lay
import Derived.Test.YtcockjjilcapaaaGreatDoorErr
import Derived.Test.YtcockjjilcapaaaGreatDoorByt
import Derived.Test.YtcockjjilcapaaaGreatDoorBalDZ
import Derived.Test.YtcockjjilcapaaaGreatDoorVee
import Derived.HandedShaped
namespace Go.Proofs.YtcockjjilcapaaaGreatDoor.fnSlips
open Go Go.ChangeShapes Go.WideShapes Go.ChangeAt Go.RowKit Go.Sort
open Go.ChangeMaps (open_string)
set_option linter.unusedVariables false

theorem own : ownKnob Tryz.prog.godebug = none := by kernel_rfl
theorem laidOut : laidOutB Tryz.prog = true := by kernel_rfl

set_option maxRecDepth 100000 in
set_option maxHeartbeats 6000000 in
theorem walk (A : Option Addr) (n c : Nat) (l : List Int) (mx : Int) (w : World) (hT : Lib.TabIs Tryz.prog w "internal/strconv.uint64pow10" .u64 Lib.pow10Tab) (ev : Value) (hE : w.cell? ⟨1, 0, none⟩ = some ev) (hev : ev = .nilIface ∨ ∃ te pe, ev = .iface te pe) (er : Value) (hR : w.cell? ⟨2, 0, none⟩ = some er) (her : er = .nilIface ∨ ∃ te pe, er = .iface te pe) (ha : Rd byV 1 w A n c l) (hb : ∀ x ∈ l, 0 ≤ x ∧ x ≤ 255) (hM : w.cell? ⟨0, 0, none⟩ = some (.int .i64 mx)) :
    Calls Tryz.prog 3 #[.slice A n c] w fun e w' => e = .returned (.bool true) ∧ Below w.heap.size w w' := by
  have HM := Lib.hid hM
  have HT := Lib.hid hT
  have HE := Lib.hid hE
  have HEV := Lib.hid hev
  have HR := Lib.hid hR
  have HER := Lib.hid her
  clear hM hT hE hev hR her
  have hm := ha.le
  go_enter Tryz.func3, Tryz.ntmps3
  go_wp2_with fail
  refine (vBig_any _ _ _ _ hm).mono ?_
  rintro e wx ⟨rfl, rfl⟩
  by_cases hbig : (65536 : Int) < (n : Int)
  · go_wp2
    go_ret
    exact ⟨rfl, Below.refl _ _⟩
  go_wp2_with fail
  refine (drawSlip_any _ _ _ l _ ha hb).mono ?_
  rintro e w1 ⟨⟨x, rfl, hx⟩, b1⟩
  have t1 := b1
  have X := Lib.hid hx
  clear hx
  have b2 := below_alloc (w := w1) (.cells #[.int .i64 x.code, .string x.ch] 25)
  have v0 : (w1.alloc (.cells #[.int .i64 x.code, .string x.ch] 25)).cell? ⟨w1.heap.size, 0, none⟩ = some (.int .i64 x.code) := cell_of_row _ _ 0 _ _ _ (heap_new rfl)
  have v1 : (w1.alloc (.cells #[.int .i64 x.code, .string x.ch] 25)).cell? ⟨w1.heap.size, 1, none⟩ = some (.string x.ch) := cell_of_row _ _ 1 _ _ _ (heap_new rfl)
  have t2 := below_trans t1 b2
  go_wp2_with fail
  generalize hgw2 : w1.alloc (.cells #[.int .i64 x.code, .string x.ch] 25) = w2 at *
  clear hgw2
  refine (implSlipText_any x _ (bas_sz X.out) (pow10_below HT.out t2)).mono ?_
  rintro e w3 ⟨rfl, b3⟩
  have t3 := below_trans t2 b3
  replace v0 := cell_below b3 v0
  replace v1 := cell_below b3 v1
  go_wp2_with fail
  refine (specSlipText_any x _ (bas_sz X.out)).mono ?_
  rintro e w4 ⟨rfl, b4⟩
  have t4 := below_trans t3 b4
  replace v0 := cell_below b4 v0
  replace v1 := cell_below b4 v1
  have hs22 := slipL_22 x
  cases hok : bOK x
  · obtain ⟨y, yb, hy⟩ : ∃ y yb, parB (slipL x) = (y, yb) := ⟨_, _, (Prod.eta _).symm⟩
    have HY := Lib.hid hy
    clear hy
    have HS := Lib.hid hs22
    generalize slipL x = s at *
    clear hok
    have hs22 := HS.out
    go_wp2_with fail
    refine (implPS_at HY.out mx ev er _ (by omega) (cell_below t4 HM.out) (pow10_below HT.out t4) (cell_below t4 HE.out) HEV.out (cell_below t4 HR.out) HER.out).mono ?_
    rintro e w5 ⟨rfl, b5⟩
    have t5 := below_trans t4 b5
    replace v0 := cell_below b5 v0
    replace v1 := cell_below b5 v1
    have b6 := below_alloc (w := w5) (.cells #[.int .i64 y.code, .string y.ch] 25)
    have u0 : (w5.alloc (.cells #[.int .i64 y.code, .string y.ch] 25)).cell? ⟨w5.heap.size, 0, none⟩ = some (.int .i64 y.code) := cell_of_row _ _ 0 _ _ _ (heap_new rfl)
    have u1 : (w5.alloc (.cells #[.int .i64 y.code, .string y.ch] 25)).cell? ⟨w5.heap.size, 1, none⟩ = some (.string y.ch) := cell_of_row _ _ 1 _ _ _ (heap_new rfl)
    have t6 := below_trans t5 b6
    replace v0 := cell_below b6 v0
    replace v1 := cell_below b6 v1
    go_wp2_with fail
    generalize hgw6 : w5.alloc (.cells #[.int .i64 y.code, .string y.ch] 25) = w6 at *
    clear hgw6
    refine (drawParseS_any _ _ _ l _ (ha.below t6) hb).mono ?_
    rintro e w7 ⟨⟨t, rfl, ht⟩, b7⟩
    have t7 := below_trans t6 b7
    replace v0 := cell_below b7 v0
    replace v1 := cell_below b7 v1
    replace u0 := cell_below b7 u0
    replace u1 := cell_below b7 u1
    clear v0 v1 u0 u1
    obtain ⟨p, pb, hp⟩ : ∃ p pb, parB t = (p, pb) := ⟨_, _, (Prod.eta _).symm⟩
    have HP := Lib.hid hp
    clear hp
    go_wp2_with fail
    refine (implPS_at HP.out mx ev er _ (by omega) (cell_below t7 HM.out) (pow10_below HT.out t7) (cell_below t7 HE.out) HEV.out (cell_below t7 HR.out) HER.out).mono ?_
    rintro e w8 ⟨rfl, b8⟩
    have t8 := below_trans t7 b8
    have b9 := below_alloc (w := w8) (.cells #[.int .i64 p.code, .string p.ch] 25)
    have v0 : (w8.alloc (.cells #[.int .i64 p.code, .string p.ch] 25)).cell? ⟨w8.heap.size, 0, none⟩ = some (.int .i64 p.code) := cell_of_row _ _ 0 _ _ _ (heap_new rfl)
    have v1 : (w8.alloc (.cells #[.int .i64 p.code, .string p.ch] 25)).cell? ⟨w8.heap.size, 1, none⟩ = some (.string p.ch) := cell_of_row _ _ 1 _ _ _ (heap_new rfl)
    have t9 := below_trans t8 b9
    go_wp2_with fail
    generalize hgw9 : w8.alloc (.cells #[.int .i64 p.code, .string p.ch] 25) = w9 at *
    clear hgw9
    refine (specPS_at HP.out _ (by omega)).mono ?_
    rintro e w10 ⟨rfl, b10⟩
    have t10 := below_trans t9 b10
    replace v0 := cell_below b10 v0
    replace v1 := cell_below b10 v1
    have b11 := below_alloc (w := w10) (.cells #[.int .i64 p.code, .string p.ch] 25)
    have u0 : (w10.alloc (.cells #[.int .i64 p.code, .string p.ch] 25)).cell? ⟨w10.heap.size, 0, none⟩ = some (.int .i64 p.code) := cell_of_row _ _ 0 _ _ _ (heap_new rfl)
    have u1 : (w10.alloc (.cells #[.int .i64 p.code, .string p.ch] 25)).cell? ⟨w10.heap.size, 1, none⟩ = some (.string p.ch) := cell_of_row _ _ 1 _ _ _ (heap_new rfl)
    have t11 := below_trans t10 b11
    replace v0 := cell_below b11 v0
    replace v1 := cell_below b11 v1
    go_wp2_with fail
    generalize hgw11 : w10.alloc (.cells #[.int .i64 p.code, .string p.ch] 25) = w11 at *
    clear hgw11
    refine (drawLead_any _ _ _ l _ (ha.below t11) hb).mono ?_
    rintro e w12 ⟨⟨A1, q1, c1, l1, A2, q2, c2, r1, rfl, hq1, hq2, ⟨o1, hg1⟩, o2⟩, b12⟩
    have t12 := below_trans t11 b12
    replace v0 := cell_below b12 v0
    replace v1 := cell_below b12 v1
    replace u0 := cell_below b12 u0
    replace u1 := cell_below b12 u1
    clear v0 v1 u0 u1
    have o1_b := o1
    have o2_b := o2
    have HG1 : Hid (∀ x ∈ l1, BaSz x) := Lib.hid (fun x hx => bas_sz (hg1 x hx))
    clear hg1
    go_wp2_with fail
    refine (implLead_any _ _ _ l1 _ _ _ r1 _ (o1.rd baV_len) (o2.rd inV_len) (by omega) HG1.out).mono ?_
    rintro e w13 ⟨rfl, b13⟩
    have t13 := below_trans t12 b13
    have o1 := o1.below b13
    have o2 := o2.below b13
    go_wp2_with fail
    refine (specLead_any _ _ _ l1 _ _ _ r1 _ (o1.rd baV_len) (o2.rd inV_len) (by omega) HG1.out).mono ?_
    rintro e w14 ⟨rfl, b14⟩
    have t14 := below_trans t13 b14
    have o1 := o1.below b14
    have o2 := o2.below b14
    cases hto : leaB l1 r1
    · clear hto
      generalize leaN l1 r1 = N at *
      generalize leaC l1 r1 = C at *
      go_wp2
      go_ret
      exact ⟨rfl, t14⟩
    · have LW := Lib.hid (lead_law hto)
      have HPO := Lib.hid (lead_poll hto)
      clear hto
      generalize leaN l1 r1 = N at *
      generalize leaC l1 r1 = C at *
      go_wp2_with fail
      refine (implCount_any _ _ _ l1 _ _ _ r1 _ (o1.rd baV_len) (o2.rd inV_len) (by omega) HG1.out).mono ?_
      rintro e w15 ⟨⟨A3, q3, c3, A4, c4, rfl, o3, o4⟩, b15⟩
      have t15 := below_trans t14 b15
      have o1 := o1.below b15
      have o2 := o2.below b15
      have o3_b := o3
      have o4_b := o4
      rw [HPO.out]
      have NX := Lib.hid (o3.rd stV_len)
      have CX := Lib.hid (o4.rd inV_len)
      have TT := Lib.hid t15
      have hq13 : q3 ≤ 1048576 := by rw [← NX.out.len, List.length_map]; have h1 := couL_len l1 r1; have h2 := o1.len; omega
      clear o1 o1_b o2 o2_b o3 o3_b o4 o4_b
      go_wp2
      go_loopw [26] (fun iv wr => ∃ i : Nat, i ≤ q3 ∧ iv = .int .i64 i ∧ Below w15.heap.size w15 wr) (fun iv _ => q3 - (intOf iv).toNat)
      case atStart => exact ⟨0, Nat.zero_le _, rfl, Below.refl _ _⟩
      case round =>
        obtain ⟨i, hi, rfl, hbw⟩ := hrel
        by_cases hiq : i < q3
        · obtain ⟨bn, on, s5, hAn, hs5, dn⟩ := (NX.out.below hbw).st hiq
          obtain ⟨bc, oc, y5, hAc, hy5, dc⟩ := (CX.out.below hbw).in hiq
          rw [List.getElem?_map, Option.map_eq_some_iff] at hs5 hy5
          obtain ⟨p5, hp5, hps⟩ := hs5
          obtain ⟨p6, hp6, hpy⟩ := hy5
          obtain rfl : p5 = p6 := by rw [hp5] at hp6; injection hp6
          have LL := LW.out p5 (List.mem_of_getElem? hp5)
          rw [hps, hpy] at LL
          have hle := LL.1
          have hgt : ¬ N < y5 := by omega
          have hi0 : (0 : Int) ≤ (i : Int) := by omega
          have hi1 : (i : Int) < (q3 : Int) := by omega
          rw [hAn, hAc]
          have HAN := Lib.hid hAn
          have HAC := Lib.hid hAc
          clear hp5 hp6 hps hpy hAn hAc
          by_cases hyN : y5 = N
          · obtain rfl : s5 = C := LL.2 hyN
            have hb1 : (y5 == N) = true := by simpa using hyN
            clear LL hyN
            go_wp2
            go_roundw
            case rel => exact ⟨i + 1, by omega, by go_num, hbw⟩
            case measure => first | (simp [intOf]; done) | (simp [intOf]; omega)
          · have hb1 : (y5 == N) = false := by simpa using hyN
            clear LL hyN
            go_wp2
            go_roundw
            case rel => exact ⟨i + 1, by omega, by go_num, hbw⟩
            case measure => first | (simp [intOf]; done) | (simp [intOf]; omega)
        · go_wp2
          go_ret
          exact ⟨rfl, below_trans TT.out hbw⟩
  · have HY : Hid (parB (slipL x) = (x, true)) := slipL_hit hok
    have HS := Lib.hid hs22
    generalize slipL x = s at *
    clear hok
    have hs22 := HS.out
    go_wp2_with fail
    refine (implPS_at HY.out mx ev er _ (by omega) (cell_below t4 HM.out) (pow10_below HT.out t4) (cell_below t4 HE.out) HEV.out (cell_below t4 HR.out) HER.out).mono ?_
    rintro e w5 ⟨rfl, b5⟩
    have t5 := below_trans t4 b5
    replace v0 := cell_below b5 v0
    replace v1 := cell_below b5 v1
    have b6 := below_alloc (w := w5) (.cells #[.int .i64 x.code, .string x.ch] 25)
    have u0 : (w5.alloc (.cells #[.int .i64 x.code, .string x.ch] 25)).cell? ⟨w5.heap.size, 0, none⟩ = some (.int .i64 x.code) := cell_of_row _ _ 0 _ _ _ (heap_new rfl)
    have u1 : (w5.alloc (.cells #[.int .i64 x.code, .string x.ch] 25)).cell? ⟨w5.heap.size, 1, none⟩ = some (.string x.ch) := cell_of_row _ _ 1 _ _ _ (heap_new rfl)
    have t6 := below_trans t5 b6
    replace v0 := cell_below b6 v0
    replace v1 := cell_below b6 v1
    go_wp2_with fail
    generalize hgw6 : w5.alloc (.cells #[.int .i64 x.code, .string x.ch] 25) = w6 at *
    clear hgw6
    refine (drawParseS_any _ _ _ l _ (ha.below t6) hb).mono ?_
    rintro e w7 ⟨⟨t, rfl, ht⟩, b7⟩
    have t7 := below_trans t6 b7
    replace v0 := cell_below b7 v0
    replace v1 := cell_below b7 v1
    replace u0 := cell_below b7 u0
    replace u1 := cell_below b7 u1
    clear v0 v1 u0 u1
    obtain ⟨p, pb, hp⟩ : ∃ p pb, parB t = (p, pb) := ⟨_, _, (Prod.eta _).symm⟩
    have HP := Lib.hid hp
    clear hp
    go_wp2_with fail
    refine (implPS_at HP.out mx ev er _ (by omega) (cell_below t7 HM.out) (pow10_below HT.out t7) (cell_below t7 HE.out) HEV.out (cell_below t7 HR.out) HER.out).mono ?_
    rintro e w8 ⟨rfl, b8⟩
    have t8 := below_trans t7 b8
    have b9 := below_alloc (w := w8) (.cells #[.int .i64 p.code, .string p.ch] 25)
    have v0 : (w8.alloc (.cells #[.int .i64 p.code, .string p.ch] 25)).cell? ⟨w8.heap.size, 0, none⟩ = some (.int .i64 p.code) := cell_of_row _ _ 0 _ _ _ (heap_new rfl)
    have v1 : (w8.alloc (.cells #[.int .i64 p.code, .string p.ch] 25)).cell? ⟨w8.heap.size, 1, none⟩ = some (.string p.ch) := cell_of_row _ _ 1 _ _ _ (heap_new rfl)
    have t9 := below_trans t8 b9
    go_wp2_with fail
    generalize hgw9 : w8.alloc (.cells #[.int .i64 p.code, .string p.ch] 25) = w9 at *
    clear hgw9
    refine (specPS_at HP.out _ (by omega)).mono ?_
    rintro e w10 ⟨rfl, b10⟩
    have t10 := below_trans t9 b10
    replace v0 := cell_below b10 v0
    replace v1 := cell_below b10 v1
    have b11 := below_alloc (w := w10) (.cells #[.int .i64 p.code, .string p.ch] 25)
    have u0 : (w10.alloc (.cells #[.int .i64 p.code, .string p.ch] 25)).cell? ⟨w10.heap.size, 0, none⟩ = some (.int .i64 p.code) := cell_of_row _ _ 0 _ _ _ (heap_new rfl)
    have u1 : (w10.alloc (.cells #[.int .i64 p.code, .string p.ch] 25)).cell? ⟨w10.heap.size, 1, none⟩ = some (.string p.ch) := cell_of_row _ _ 1 _ _ _ (heap_new rfl)
    have t11 := below_trans t10 b11
    replace v0 := cell_below b11 v0
    replace v1 := cell_below b11 v1
    go_wp2_with fail
    generalize hgw11 : w10.alloc (.cells #[.int .i64 p.code, .string p.ch] 25) = w11 at *
    clear hgw11
    refine (drawLead_any _ _ _ l _ (ha.below t11) hb).mono ?_
    rintro e w12 ⟨⟨A1, q1, c1, l1, A2, q2, c2, r1, rfl, hq1, hq2, ⟨o1, hg1⟩, o2⟩, b12⟩
    have t12 := below_trans t11 b12
    replace v0 := cell_below b12 v0
    replace v1 := cell_below b12 v1
    replace u0 := cell_below b12 u0
    replace u1 := cell_below b12 u1
    clear v0 v1 u0 u1
    have o1_b := o1
    have o2_b := o2
    have HG1 : Hid (∀ x ∈ l1, BaSz x) := Lib.hid (fun x hx => bas_sz (hg1 x hx))
    clear hg1
    go_wp2_with fail
    refine (implLead_any _ _ _ l1 _ _ _ r1 _ (o1.rd baV_len) (o2.rd inV_len) (by omega) HG1.out).mono ?_
    rintro e w13 ⟨rfl, b13⟩
    have t13 := below_trans t12 b13
    have o1 := o1.below b13
    have o2 := o2.below b13
    go_wp2_with fail
    refine (specLead_any _ _ _ l1 _ _ _ r1 _ (o1.rd baV_len) (o2.rd inV_len) (by omega) HG1.out).mono ?_
    rintro e w14 ⟨rfl, b14⟩
    have t14 := below_trans t13 b14
    have o1 := o1.below b14
    have o2 := o2.below b14
    cases hto : leaB l1 r1
    · clear hto
      generalize leaN l1 r1 = N at *
      generalize leaC l1 r1 = C at *
      go_wp2
      go_ret
      exact ⟨rfl, t14⟩
    · have LW := Lib.hid (lead_law hto)
      have HPO := Lib.hid (lead_poll hto)
      clear hto
      generalize leaN l1 r1 = N at *
      generalize leaC l1 r1 = C at *
      go_wp2_with fail
      refine (implCount_any _ _ _ l1 _ _ _ r1 _ (o1.rd baV_len) (o2.rd inV_len) (by omega) HG1.out).mono ?_
      rintro e w15 ⟨⟨A3, q3, c3, A4, c4, rfl, o3, o4⟩, b15⟩
      have t15 := below_trans t14 b15
      have o1 := o1.below b15
      have o2 := o2.below b15
      have o3_b := o3
      have o4_b := o4
      rw [HPO.out]
      have NX := Lib.hid (o3.rd stV_len)
      have CX := Lib.hid (o4.rd inV_len)
      have TT := Lib.hid t15
      have hq13 : q3 ≤ 1048576 := by rw [← NX.out.len, List.length_map]; have h1 := couL_len l1 r1; have h2 := o1.len; omega
      clear o1 o1_b o2 o2_b o3 o3_b o4 o4_b
      go_wp2
      go_loopw [26] (fun iv wr => ∃ i : Nat, i ≤ q3 ∧ iv = .int .i64 i ∧ Below w15.heap.size w15 wr) (fun iv _ => q3 - (intOf iv).toNat)
      case atStart => exact ⟨0, Nat.zero_le _, rfl, Below.refl _ _⟩
      case round =>
        obtain ⟨i, hi, rfl, hbw⟩ := hrel
        by_cases hiq : i < q3
        · obtain ⟨bn, on, s5, hAn, hs5, dn⟩ := (NX.out.below hbw).st hiq
          obtain ⟨bc, oc, y5, hAc, hy5, dc⟩ := (CX.out.below hbw).in hiq
          rw [List.getElem?_map, Option.map_eq_some_iff] at hs5 hy5
          obtain ⟨p5, hp5, hps⟩ := hs5
          obtain ⟨p6, hp6, hpy⟩ := hy5
          obtain rfl : p5 = p6 := by rw [hp5] at hp6; injection hp6
          have LL := LW.out p5 (List.mem_of_getElem? hp5)
          rw [hps, hpy] at LL
          have hle := LL.1
          have hgt : ¬ N < y5 := by omega
          have hi0 : (0 : Int) ≤ (i : Int) := by omega
          have hi1 : (i : Int) < (q3 : Int) := by omega
          rw [hAn, hAc]
          have HAN := Lib.hid hAn
          have HAC := Lib.hid hAc
          clear hp5 hp6 hps hpy hAn hAc
          by_cases hyN : y5 = N
          · obtain rfl : s5 = C := LL.2 hyN
            have hb1 : (y5 == N) = true := by simpa using hyN
            clear LL hyN
            go_wp2
            go_roundw
            case rel => exact ⟨i + 1, by omega, by go_num, hbw⟩
            case measure => first | (simp [intOf]; done) | (simp [intOf]; omega)
          · have hb1 : (y5 == N) = false := by simpa using hyN
            clear LL hyN
            go_wp2
            go_roundw
            case rel => exact ⟨i + 1, by omega, by go_num, hbw⟩
            case measure => first | (simp [intOf]; done) | (simp [intOf]; omega)
        · go_wp2
          go_ret
          exact ⟨rfl, below_trans TT.out hbw⟩

set_option maxRecDepth 100000 in
theorem door_met (os : Os) (args : Array Value) : laidMetH Tryz.prog Rows.fnSlipsRow.laid ((World.laidAll Tryz.prog os Rows.fnSlipsRow.laid).forCall (fun _ _ => 0) ⟨#[], args, []⟩).memory :=
  by rw [MakeChecks.laidMetH_plain _ _ _ (by kernel_rfl)]; exact laidMet_laidAll _ (by kernel_rfl) (by kernel_rfl)

set_option maxRecDepth 100000 in
theorem lifted (os : Os) (started : os.Started) (H : Type) (enc : TypeId × Value → H) :
    ReturnsInHanded {} Tryz.checked os 3 .any (fun w args => (Rows.fnSlipsSpec.pre enc Tryz.prog Tryz.f3 [] false w args ∧ laidMetH Tryz.prog Rows.fnSlipsRow.laid w) ∧ sizedMet enc Tryz.prog Tryz.f3 (OpenSpec.ofChange Rows.fnSlipsSpec) false w args)
      (Rows.fnSlipsSpec.post enc Tryz.prog Tryz.f3 false true false false) := by
  refine handed_and_shaped (C := Tryz.checked) (X := fun w _ => laidMetH Tryz.prog Rows.fnSlipsRow.laid w) (fun _ _ _ hh h => h.of_heap hh) own started (by kernel_rfl) Tryz.func3
    (ChangeSpec.witness_shaped (enc := enc) (C := Tryz.checked) (os := os) (X := fun w _ => laidMetH Tryz.prog Rows.fnSlipsRow.laid w) false (World.laidAll Tryz.prog os Rows.fnSlipsRow.laid) #[.slice none 0 0] 8 (World.laidAll_os _ _ _) (World.shaped_of_ZipB (by kernel_rfl) (by kernel_rfl)) (by kernel_rfl) (by kernel_rfl) (by kernel_rfl) (door_met os _)) ?_
  intro W base args ds gs before hval0 hW hL hsh
  have hval : ∀ (j : Nat) t v, Tryz.f3.params[j]? = some t → args[j]? = some v → Value.okWide Tryz.prog W .any base t v := hval0
  have hW' := hW
  obtain ⟨p, q, hA0, hV, rfl, hfz, hnd⟩ := hW
  have hA : DataW.TrodAll enc Tryz.prog W 0 (fun _ => true) true Tryz.f3.params.toList args.toList ds p := hA0
  rw [Tryz.params3] at hA hval
  obtain ⟨v0, vs0, d0, ds0, p0, q0, hargs, rfl, rfl, h0, r0⟩ := trodAll_cons hA
  obtain ⟨rfl, rfl, rfl⟩ := trodAll_nil r0
  obtain rfl : args = #[v0] := by cases args; simp_all
  obtain ⟨rfl, rfl⟩ := trodVars_none hV
  obtain ⟨A0, n0, c0, l0, rfl, R0, G0⟩ := open_rd (ec := byV) Tryz.underlying22 (by kernel_rfl) (read_bytes) (by omega) byV_len (hval 0 22 v0 rfl rfl) h0
  obtain ⟨mx, hM⟩ := Tryz.laysM143.s1_3 W (show W.ShapedOpen Tryz.prog from hsh)
  have hT := pow10_of (by kernel_rfl) hL (List.Mem.tail _ (List.Mem.tail _ (List.Mem.head _)))
  obtain ⟨ev, hE, hev⟩ := errSyntax_of (by kernel_rfl) hL (List.Mem.tail _ (List.Mem.tail _ (List.Mem.tail _ (List.Mem.tail _ (List.Mem.head _)))))
  obtain ⟨er, hR, her⟩ := errRange_of (by kernel_rfl) hL (List.Mem.tail _ (List.Mem.tail _ (List.Mem.tail _ (List.Mem.head _))))
  refine (walk A0 n0 c0 l0 mx W hT ev hE hev er hR her R0 G0 hM).mono fun e W' ⟨he, hb⟩ => ?_
  subst he
  exact ⟨_, rfl, law_post laidOut (by kernel_rfl) (by kernel_rfl) Tryz.underlying4 rfl hW' rfl rfl rfl hb⟩

theorem over : Rows.fnSlipsRow.holds Tryz.pinned (OpenSpec.ofChange Rows.fnSlipsSpec) :=
  OpenClaim.holds_of_wide 3 Tryz.f3 rfl rfl rfl rfl rfl rfl rfl ⟨rfl, rfl, rfl, rfl, rfl⟩ rfl rfl rfl rfl rfl (by kernel_rfl) Tryz.func3 (by kernel_rfl)
    (of_decide_eq_true (by kernel_rfl)) (by unfold Func.isWrapper; rw [if_neg (of_decide_eq_false (by kernel_rfl))]; exact ⟨rfl, rfl⟩)
    (fun os started H enc _ => lifted os started H enc)

theorem proved : Rows.FnSlipsCardSaid :=
  Claim7.holds_tied_plain_at .later [] [.data, .data, .data, .sentinel, .sentinel] true (true, "1b586c653ec923d527ebcbd5e3faa60ab2491d3dff85f0d988c68e0436888849") true
    over (fun _ h => by cases h) (by kernel_rfl) (fun _ h => by cases h) fnSlips_row_tie rfl ⟨rfl, rfl⟩ (by kernel_rfl) rfl
    (fun f fn hf hfn => by
      obtain rfl : f = 3 := Option.some.inj ((show Tryz.prog.funcNamed "loop.example/g00909/laws.FnSlips" = some 3 by kernel_rfl).symm.trans hf) |>.symm
      obtain rfl : fn = Tryz.f3 := (Option.some.inj (Tryz.func3.symm.trans hfn)).symm
      exact ⟨by kernel_rfl, fun j t ht => by
        have hall : (Tryz.f3.params.toList.all fun u => !Tryz.prog.wantsStandIn u) = true := by kernel_rfl
        have hm : t ∈ Tryz.f3.params.toList := Array.mem_toList_iff.2 (Array.mem_of_getElem? ht)
        exact (show Tryz.prog.wantsStandIn t = false by simpa using List.all_eq_true.1 hall t hm)⟩)
    (by kernel_rfl)
#print axioms proved
end Go.Proofs.YtcockjjilcapaaaGreatDoor.fnSlips
