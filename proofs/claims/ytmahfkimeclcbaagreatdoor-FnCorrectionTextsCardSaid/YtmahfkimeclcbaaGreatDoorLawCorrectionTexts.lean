/- FnCorrectionTexts: for every code of at most 65536 bytes: CorrectionText, ParseCorrection, ShortCorrection and DoCommute answer as the reference at what is drawn; corrections are recovered from their texts, a short one turns a line into the other one, and corrections of different lines commute. No condition.
-/
import Derived.Test.YtmahfkimeclcbaaGreatDoorRead
import Derived.Test.YtmahfkimeclcbaaGreatDoorCards
import Derived.Test.YtmahfkimeclcbaaGreatDoorTie
import Derived.ProofKit
import Derived.LaidMore
import Derived.OpenShut
import Derived.Stop.Joined
import Derived.SevenTiedAt
import Derived.Test.YtmahfkimeclcbaaGreatDoorDoor
import Derived.Lay
import Derived.Test.YtmahfkimeclcbaaGreatDoorErr
import Derived.Test.YtmahfkimeclcbaaGreatDoorByt
import Derived.Test.YtmahfkimeclcbaaGreatDoorCorDY
import Derived.Test.YtmahfkimeclcbaaGreatDoorVee
import Derived.HandedShaped
namespace Go.Proofs.YtmahfkimeclcbaaGreatDoor.fnCorrectionTexts
open Go Go.ChangeShapes Go.WideShapes Go.ChangeAt Go.RowKit Go.Sort
open Go.ChangeMaps (open_string)
set_option linter.unusedVariables false

theorem own : ownKnob Tryz.prog.godebug = none := by kernel_rfl
theorem laidOut : laidOutB Tryz.prog = true := by kernel_rfl

set_option maxRecDepth 100000 in
set_option maxHeartbeats 6000000 in
theorem walk (A : Option Addr) (n c : Nat) (l : List Int) (mx : Int) (w : World) (hT : Lib.TabIs Tryz.prog w "internal/strconv.uint64pow10" .u64 Lib.pow10Tab) (ev : Value) (hE : w.cell? ⟨1, 0, none⟩ = some ev) (hev : ev = .nilIface ∨ ∃ te pe, ev = .iface te pe) (ha : Rd byV 1 w A n c l) (hb : ∀ x ∈ l, 0 ≤ x ∧ x ≤ 255) (hM : w.cell? ⟨0, 0, none⟩ = some (.int .i64 mx)) :
    Calls Tryz.prog 3 #[.slice A n c] w fun e w' => e = .returned (.bool true) ∧ Below w.heap.size w w' := by
  have HM := Lib.hid hM
  have HT := Lib.hid hT
  have HE := Lib.hid hE
  have HEV := Lib.hid hev
  clear hM hT hE hev
  have hm := ha.le
  go_enter Tryz.func3, Tryz.ntmps3
  go_wp2_with fail
  refine (vBig_any _ _ _ _ hm).mono ?_
  rintro e wx ⟨rfl, rfl⟩
  by_cases hbig : (65536 : Int) < (n : Int)
  · go_wp2
    go_ret
    exact ⟨rfl, Below.refl _ _⟩
  go_wp2_with fail
  refine (drawCT_any _ _ _ l _ ha hb).mono ?_
  rintro e w1 ⟨⟨x, rfl, hx⟩, b1⟩
  have t1 := b1
  have X := Lib.hid hx
  clear hx
  have b2 := below_alloc (w := w1) (.cells #[.int .i64 x.line, .string x.old, .string x.new] 25)
  have v0 : (w1.alloc (.cells #[.int .i64 x.line, .string x.old, .string x.new] 25)).cell? ⟨w1.heap.size, 0, none⟩ = some (.int .i64 x.line) := cell_of_row _ _ 0 _ _ _ (heap_new rfl)
  have v1 : (w1.alloc (.cells #[.int .i64 x.line, .string x.old, .string x.new] 25)).cell? ⟨w1.heap.size, 1, none⟩ = some (.string x.old) := cell_of_row _ _ 1 _ _ _ (heap_new rfl)
  have v2 : (w1.alloc (.cells #[.int .i64 x.line, .string x.old, .string x.new] 25)).cell? ⟨w1.heap.size, 2, none⟩ = some (.string x.new) := cell_of_row _ _ 2 _ _ _ (heap_new rfl)
  have t2 := below_trans t1 b2
  go_wp2_with fail
  generalize hgw2 : w1.alloc (.cells #[.int .i64 x.line, .string x.old, .string x.new] 25) = w2 at *
  clear hgw2
  refine (implCorrectionText_any x _ (coM X.out).1 (coM X.out).2).mono ?_
  rintro e w3 ⟨rfl, b3⟩
  have t3 := below_trans t2 b3
  replace v0 := cell_below b3 v0
  replace v1 := cell_below b3 v1
  replace v2 := cell_below b3 v2
  go_wp2_with fail
  refine (specCorrectionText_any x _ (coM X.out).1 (coM X.out).2).mono ?_
  rintro e w4 ⟨rfl, b4⟩
  have t4 := below_trans t3 b4
  replace v0 := cell_below b4 v0
  replace v1 := cell_below b4 v1
  replace v2 := cell_below b4 v2
  have hs80 := corL_80 x
  cases hok : tellB x
  · obtain ⟨y, yb, hy⟩ : ∃ y yb, parC (corL x) = (y, yb) := ⟨_, _, (Prod.eta _).symm⟩
    have HY := Lib.hid hy
    clear hy
    have HS := Lib.hid hs80
    generalize corL x = s at *
    clear hok
    have hs80 := HS.out
    go_wp2_with fail
    refine (implPC_at HY.out mx ev _ (by omega) (cell_below t4 HM.out) (pow10_below HT.out t4) (cell_below t4 HE.out) HEV.out).mono ?_
    rintro e w5 ⟨rfl, b5⟩
    have t5 := below_trans t4 b5
    replace v0 := cell_below b5 v0
    replace v1 := cell_below b5 v1
    replace v2 := cell_below b5 v2
    have b6 := below_alloc (w := w5) (.cells #[.int .i64 y.line, .string y.old, .string y.new] 25)
    have u0 : (w5.alloc (.cells #[.int .i64 y.line, .string y.old, .string y.new] 25)).cell? ⟨w5.heap.size, 0, none⟩ = some (.int .i64 y.line) := cell_of_row _ _ 0 _ _ _ (heap_new rfl)
    have u1 : (w5.alloc (.cells #[.int .i64 y.line, .string y.old, .string y.new] 25)).cell? ⟨w5.heap.size, 1, none⟩ = some (.string y.old) := cell_of_row _ _ 1 _ _ _ (heap_new rfl)
    have u2 : (w5.alloc (.cells #[.int .i64 y.line, .string y.old, .string y.new] 25)).cell? ⟨w5.heap.size, 2, none⟩ = some (.string y.new) := cell_of_row _ _ 2 _ _ _ (heap_new rfl)
    have t6 := below_trans t5 b6
    replace v0 := cell_below b6 v0
    replace v1 := cell_below b6 v1
    replace v2 := cell_below b6 v2
    go_wp2_with fail
    generalize hgw6 : w5.alloc (.cells #[.int .i64 y.line, .string y.old, .string y.new] 25) = w6 at *
    clear hgw6
    refine (drawParseC_any _ _ _ l _ (ha.below t6) hb).mono ?_
    rintro e w7 ⟨⟨t, rfl, ht⟩, b7⟩
    have t7 := below_trans t6 b7
    replace v0 := cell_below b7 v0
    replace v1 := cell_below b7 v1
    replace v2 := cell_below b7 v2
    replace u0 := cell_below b7 u0
    replace u1 := cell_below b7 u1
    replace u2 := cell_below b7 u2
    clear v0 v1 v2 u0 u1 u2
    obtain ⟨p, pb, hp⟩ : ∃ p pb, parC t = (p, pb) := ⟨_, _, (Prod.eta _).symm⟩
    have HP := Lib.hid hp
    clear hp
    go_wp2_with fail
    refine (implPC_at HP.out mx ev _ (by omega) (cell_below t7 HM.out) (pow10_below HT.out t7) (cell_below t7 HE.out) HEV.out).mono ?_
    rintro e w8 ⟨rfl, b8⟩
    have t8 := below_trans t7 b8
    have b9 := below_alloc (w := w8) (.cells #[.int .i64 p.line, .string p.old, .string p.new] 25)
    have v0 : (w8.alloc (.cells #[.int .i64 p.line, .string p.old, .string p.new] 25)).cell? ⟨w8.heap.size, 0, none⟩ = some (.int .i64 p.line) := cell_of_row _ _ 0 _ _ _ (heap_new rfl)
    have v1 : (w8.alloc (.cells #[.int .i64 p.line, .string p.old, .string p.new] 25)).cell? ⟨w8.heap.size, 1, none⟩ = some (.string p.old) := cell_of_row _ _ 1 _ _ _ (heap_new rfl)
    have v2 : (w8.alloc (.cells #[.int .i64 p.line, .string p.old, .string p.new] 25)).cell? ⟨w8.heap.size, 2, none⟩ = some (.string p.new) := cell_of_row _ _ 2 _ _ _ (heap_new rfl)
    have t9 := below_trans t8 b9
    go_wp2_with fail
    generalize hgw9 : w8.alloc (.cells #[.int .i64 p.line, .string p.old, .string p.new] 25) = w9 at *
    clear hgw9
    refine (specPC_at HP.out _ (by omega)).mono ?_
    rintro e w10 ⟨rfl, b10⟩
    have t10 := below_trans t9 b10
    replace v0 := cell_below b10 v0
    replace v1 := cell_below b10 v1
    replace v2 := cell_below b10 v2
    have b11 := below_alloc (w := w10) (.cells #[.int .i64 p.line, .string p.old, .string p.new] 25)
    have u0 : (w10.alloc (.cells #[.int .i64 p.line, .string p.old, .string p.new] 25)).cell? ⟨w10.heap.size, 0, none⟩ = some (.int .i64 p.line) := cell_of_row _ _ 0 _ _ _ (heap_new rfl)
    have u1 : (w10.alloc (.cells #[.int .i64 p.line, .string p.old, .string p.new] 25)).cell? ⟨w10.heap.size, 1, none⟩ = some (.string p.old) := cell_of_row _ _ 1 _ _ _ (heap_new rfl)
    have u2 : (w10.alloc (.cells #[.int .i64 p.line, .string p.old, .string p.new] 25)).cell? ⟨w10.heap.size, 2, none⟩ = some (.string p.new) := cell_of_row _ _ 2 _ _ _ (heap_new rfl)
    have t11 := below_trans t10 b11
    replace v0 := cell_below b11 v0
    replace v1 := cell_below b11 v1
    replace v2 := cell_below b11 v2
    go_wp2_with fail
    generalize hgw11 : w10.alloc (.cells #[.int .i64 p.line, .string p.old, .string p.new] 25) = w11 at *
    clear hgw11
    refine (drawShort_any _ _ _ l _ (ha.below t11) hb).mono ?_
    rintro e w12 ⟨⟨a, b, rfl, ha6, hb6⟩, b12⟩
    have t12 := below_trans t11 b12
    replace v0 := cell_below b12 v0
    replace v1 := cell_below b12 v1
    replace v2 := cell_below b12 v2
    replace u0 := cell_below b12 u0
    replace u1 := cell_below b12 u1
    replace u2 := cell_below b12 u2
    clear v0 v1 v2 u0 u1 u2
    have ham : a.size ≤ 1048576 := by omega
    have hbm : b.size ≤ 1048576 := by omega
    obtain ⟨y2, hy2⟩ : ∃ y, scC a b = y := ⟨_, rfl⟩
    have HY2 := Lib.hid hy2
    clear hy2
    cases hto : scG a b
    · have HTO := Lib.hid hto
      clear hto
      go_wp2_with fail
      refine (implSC_at HY2.out HTO.out mx _ ham hbm (cell_below t12 HM.out)).mono ?_
      rintro e w13 ⟨rfl, b13⟩
      have t13 := below_trans t12 b13
      have b14 := below_alloc (w := w13) (.cells #[.int .i64 y2.line, .string y2.old, .string y2.new] 25)
      have v0 : (w13.alloc (.cells #[.int .i64 y2.line, .string y2.old, .string y2.new] 25)).cell? ⟨w13.heap.size, 0, none⟩ = some (.int .i64 y2.line) := cell_of_row _ _ 0 _ _ _ (heap_new rfl)
      have v1 : (w13.alloc (.cells #[.int .i64 y2.line, .string y2.old, .string y2.new] 25)).cell? ⟨w13.heap.size, 1, none⟩ = some (.string y2.old) := cell_of_row _ _ 1 _ _ _ (heap_new rfl)
      have v2 : (w13.alloc (.cells #[.int .i64 y2.line, .string y2.old, .string y2.new] 25)).cell? ⟨w13.heap.size, 2, none⟩ = some (.string y2.new) := cell_of_row _ _ 2 _ _ _ (heap_new rfl)
      have t14 := below_trans t13 b14
      go_wp2_with fail
      generalize hgw14 : w13.alloc (.cells #[.int .i64 y2.line, .string y2.old, .string y2.new] 25) = w14 at *
      clear hgw14
      refine (specSC_at HY2.out HTO.out _ ham hbm).mono ?_
      rintro e w15 ⟨rfl, b15⟩
      have t15 := below_trans t14 b15
      replace v0 := cell_below b15 v0
      replace v1 := cell_below b15 v1
      replace v2 := cell_below b15 v2
      have b16 := below_alloc (w := w15) (.cells #[.int .i64 y2.line, .string y2.old, .string y2.new] 25)
      have u0 : (w15.alloc (.cells #[.int .i64 y2.line, .string y2.old, .string y2.new] 25)).cell? ⟨w15.heap.size, 0, none⟩ = some (.int .i64 y2.line) := cell_of_row _ _ 0 _ _ _ (heap_new rfl)
      have u1 : (w15.alloc (.cells #[.int .i64 y2.line, .string y2.old, .string y2.new] 25)).cell? ⟨w15.heap.size, 1, none⟩ = some (.string y2.old) := cell_of_row _ _ 1 _ _ _ (heap_new rfl)
      have u2 : (w15.alloc (.cells #[.int .i64 y2.line, .string y2.old, .string y2.new] 25)).cell? ⟨w15.heap.size, 2, none⟩ = some (.string y2.new) := cell_of_row _ _ 2 _ _ _ (heap_new rfl)
      have t16 := below_trans t15 b16
      replace v0 := cell_below b16 v0
      replace v1 := cell_below b16 v1
      replace v2 := cell_below b16 v2
      go_wp2_with fail
      generalize hgw16 : w15.alloc (.cells #[.int .i64 y2.line, .string y2.old, .string y2.new] 25) = w16 at *
      clear hgw16
      refine (drawCom_any _ _ _ l _ (ha.below t16) hb).mono ?_
      rintro e w17 ⟨⟨Ac, qc, cc, lc, x2, z2, rfl, hqc, lcT, hx2, hz2⟩, b17⟩
      have t17 := below_trans t16 b17
      replace v0 := cell_below b17 v0
      replace v1 := cell_below b17 v1
      replace v2 := cell_below b17 v2
      replace u0 := cell_below b17 u0
      replace u1 := cell_below b17 u1
      replace u2 := cell_below b17 u2
      clear v0 v1 v2 u0 u1 u2
      obtain ⟨lco, hgl⟩ := lcT
      have HG := Lib.hid (t1M hgl)
      have X2 := Lib.hid hx2
      have Z2 := Lib.hid hz2
      clear hx2 hz2 hgl
      have lco_b := lco
      have b19 := below_alloc2 (w := w17) (.cells #[.int .i64 x2.line, .string x2.old, .string x2.new] 25) (.cells #[.int .i64 z2.line, .string z2.old, .string z2.new] 25)
      have v0 : ((w17.alloc (.cells #[.int .i64 x2.line, .string x2.old, .string x2.new] 25)).alloc (.cells #[.int .i64 z2.line, .string z2.old, .string z2.new] 25)).cell? ⟨w17.heap.size, 0, none⟩ = some (.int .i64 x2.line) := cell_below (below_alloc _) (cell_of_row _ _ 0 _ _ _ (heap_new rfl))
      have v1 : ((w17.alloc (.cells #[.int .i64 x2.line, .string x2.old, .string x2.new] 25)).alloc (.cells #[.int .i64 z2.line, .string z2.old, .string z2.new] 25)).cell? ⟨w17.heap.size, 1, none⟩ = some (.string x2.old) := cell_below (below_alloc _) (cell_of_row _ _ 1 _ _ _ (heap_new rfl))
      have v2 : ((w17.alloc (.cells #[.int .i64 x2.line, .string x2.old, .string x2.new] 25)).alloc (.cells #[.int .i64 z2.line, .string z2.old, .string z2.new] 25)).cell? ⟨w17.heap.size, 2, none⟩ = some (.string x2.new) := cell_below (below_alloc _) (cell_of_row _ _ 2 _ _ _ (heap_new rfl))
      have u0 : ((w17.alloc (.cells #[.int .i64 x2.line, .string x2.old, .string x2.new] 25)).alloc (.cells #[.int .i64 z2.line, .string z2.old, .string z2.new] 25)).cell? ⟨w17.heap.size + 1, 0, none⟩ = some (.int .i64 z2.line) := cell_of_row _ _ 0 _ _ _ (heap_new ba0.symm)
      have u1 : ((w17.alloc (.cells #[.int .i64 x2.line, .string x2.old, .string x2.new] 25)).alloc (.cells #[.int .i64 z2.line, .string z2.old, .string z2.new] 25)).cell? ⟨w17.heap.size + 1, 1, none⟩ = some (.string z2.old) := cell_of_row _ _ 1 _ _ _ (heap_new ba0.symm)
      have u2 : ((w17.alloc (.cells #[.int .i64 x2.line, .string x2.old, .string x2.new] 25)).alloc (.cells #[.int .i64 z2.line, .string z2.old, .string z2.new] 25)).cell? ⟨w17.heap.size + 1, 2, none⟩ = some (.string z2.new) := cell_of_row _ _ 2 _ _ _ (heap_new ba0.symm)
      have t19 := below_trans t17 b19
      have lco := lco.below b19
      go_wp2_with fail
      generalize hgw19 : ((w17.alloc (.cells #[.int .i64 x2.line, .string x2.old, .string x2.new] 25)).alloc (.cells #[.int .i64 z2.line, .string z2.old, .string z2.new] 25)) = w19 at *
      clear hgw19
      refine (implDoCommute_any _ _ _ lc x2 z2 mx _ (lco.rd stV_len) (by omega) HG.out (co1M X2.out) (co1M Z2.out) (cell_below t19 HM.out)).mono ?_
      rintro e w20 ⟨rfl, b20⟩
      have t20 := below_trans t19 b20
      have lco := lco.below b20
      replace v0 := cell_below b20 v0
      replace v1 := cell_below b20 v1
      replace v2 := cell_below b20 v2
      replace u0 := cell_below b20 u0
      replace u1 := cell_below b20 u1
      replace u2 := cell_below b20 u2
      go_wp2_with fail
      refine (implDoCommute_any _ _ _ lc z2 x2 mx _ (lco.rd stV_len) (by omega) HG.out (co1M Z2.out) (co1M X2.out) (cell_below t20 HM.out)).mono ?_
      rintro e w21 ⟨rfl, b21⟩
      have t21 := below_trans t20 b21
      have lco := lco.below b21
      replace v0 := cell_below b21 v0
      replace v1 := cell_below b21 v1
      replace v2 := cell_below b21 v2
      replace u0 := cell_below b21 u0
      replace u1 := cell_below b21 u1
      replace u2 := cell_below b21 u2
      rw [(com_symm lc x2 z2).1, (com_symm lc x2 z2).2]
      go_wp2_with fail
      refine (specDoCommute_any _ _ _ lc x2 z2 _ (lco.rd stV_len) (by omega) HG.out (co1M X2.out) (co1M Z2.out)).mono ?_
      rintro e w22 ⟨rfl, b22⟩
      have t22 := below_trans t21 b22
      have lco := lco.below b22
      replace v0 := cell_below b22 v0
      replace v1 := cell_below b22 v1
      replace v2 := cell_below b22 v2
      replace u0 := cell_below b22 u0
      replace u1 := cell_below b22 u1
      replace u2 := cell_below b22 u2
      cases hkn : comG lc x2 z2
      · clear hkn
        go_wp2
        go_ret
        exact ⟨rfl, t22⟩
      · by_cases hli : x2.line = z2.line
        · clear hkn
          have hlb : (x2.line == z2.line) = true := by simpa using hli
          clear hli
          go_wp2
          go_ret
          exact ⟨rfl, t22⟩
        · rw [com_lines hkn hli]
          have hlb : (x2.line == z2.line) = false := by simpa using hli
          clear hkn hli
          go_wp2
          go_ret
          exact ⟨rfl, t22⟩
    · have HTO := Lib.hid hto
      clear hto
      go_wp2_with fail
      refine (implSC_at HY2.out HTO.out mx _ ham hbm (cell_below t12 HM.out)).mono ?_
      rintro e w13 ⟨rfl, b13⟩
      have t13 := below_trans t12 b13
      have b14 := below_alloc (w := w13) (.cells #[.int .i64 y2.line, .string y2.old, .string y2.new] 25)
      have v0 : (w13.alloc (.cells #[.int .i64 y2.line, .string y2.old, .string y2.new] 25)).cell? ⟨w13.heap.size, 0, none⟩ = some (.int .i64 y2.line) := cell_of_row _ _ 0 _ _ _ (heap_new rfl)
      have v1 : (w13.alloc (.cells #[.int .i64 y2.line, .string y2.old, .string y2.new] 25)).cell? ⟨w13.heap.size, 1, none⟩ = some (.string y2.old) := cell_of_row _ _ 1 _ _ _ (heap_new rfl)
      have v2 : (w13.alloc (.cells #[.int .i64 y2.line, .string y2.old, .string y2.new] 25)).cell? ⟨w13.heap.size, 2, none⟩ = some (.string y2.new) := cell_of_row _ _ 2 _ _ _ (heap_new rfl)
      have t14 := below_trans t13 b14
      go_wp2_with fail
      generalize hgw14 : w13.alloc (.cells #[.int .i64 y2.line, .string y2.old, .string y2.new] 25) = w14 at *
      clear hgw14
      refine (specSC_at HY2.out HTO.out _ ham hbm).mono ?_
      rintro e w15 ⟨rfl, b15⟩
      have t15 := below_trans t14 b15
      replace v0 := cell_below b15 v0
      replace v1 := cell_below b15 v1
      replace v2 := cell_below b15 v2
      obtain ⟨hsG, hsL⟩ := short_law HTO.out
      have HSZ := Lib.hid (short_sz HTO.out)
      rw [HY2.out] at hsG hsL HSZ
      have HSG := Lib.hid hsG
      have HSL := Lib.hid hsL
      clear hsG hsL
      have pb17 := below_alloc (w := w15) (.cells #[.int .i64 y2.line, .string y2.old, .string y2.new] 25)
      have qb17 := below_alloc (w := (w15.alloc (.cells #[.int .i64 y2.line, .string y2.old, .string y2.new] 25))) (.cells #[.string a] 9)
      have b17 := below_trans pb17 qb17
      have u0_1 : (w15.alloc (.cells #[.int .i64 y2.line, .string y2.old, .string y2.new] 25)).cell? ⟨w15.heap.size, 0, none⟩ = some (.int .i64 y2.line) := cell_of_row _ _ 0 _ _ _ (heap_new rfl)
      have u0 := cell_below qb17 u0_1
      have u1_1 : (w15.alloc (.cells #[.int .i64 y2.line, .string y2.old, .string y2.new] 25)).cell? ⟨w15.heap.size, 1, none⟩ = some (.string y2.old) := cell_of_row _ _ 1 _ _ _ (heap_new rfl)
      have u1 := cell_below qb17 u1_1
      have u2_1 : (w15.alloc (.cells #[.int .i64 y2.line, .string y2.old, .string y2.new] 25)).cell? ⟨w15.heap.size, 2, none⟩ = some (.string y2.new) := cell_of_row _ _ 2 _ _ _ (heap_new rfl)
      have u2 := cell_below qb17 u2_1
      have t17 := below_trans t15 b17
      have v0_1 := cell_below pb17 v0
      replace v0 := cell_below b17 v0
      have v1_1 := cell_below pb17 v1
      replace v1 := cell_below b17 v1
      have v2_1 := cell_below pb17 v2
      replace v2 := cell_below b17 v2
      have la : Own stV 1 ((w15.alloc (.cells #[.int .i64 y2.line, .string y2.old, .string y2.new] 25)).alloc (.cells #[.string a] 9)) w15.heap.size 9 (some ⟨w15.heap.size + 1, 0, none⟩) 1 1 [a] := by have h9 := own_one (enc := stV) (sz := 1) (w15.alloc (.cells #[.int .i64 y2.line, .string y2.old, .string y2.new] 25)) #[.string a] 9 (a) rfl rfl; rw [ba0] at h9; exact h9.base_le (by omega)
      go_wp2_with fail
      generalize hgw17 : ((w15.alloc (.cells #[.int .i64 y2.line, .string y2.old, .string y2.new] 25)).alloc (.cells #[.string a] 9)) = w17 at *
      clear hgw17 v0_1 v1_1 v2_1 u0_1 u1_1 u2_1
      refine (implCorrectSheet_any _ _ _ [a] y2 mx _ (la.rd stV_len) (by omega) (fun s hs => by rw [List.mem_singleton.1 hs]; exact ham) HSZ.out.1 HSZ.out.2 (cell_below t17 HM.out)).mono ?_
      rintro e w18 ⟨⟨A1, q1, c1, rfl, o1⟩, b18⟩
      have t18 := below_trans t17 b18
      have la := la.below b18
      replace v0 := cell_below b18 v0
      replace v1 := cell_below b18 v1
      replace v2 := cell_below b18 v2
      replace u0 := cell_below b18 u0
      replace u1 := cell_below b18 u1
      replace u2 := cell_below b18 u2
      have o1_b := o1
      rw [HSG.out]
      rw [HSL.out] at o1
      have hq1 := o1.len
      have hq1' : (1 : Nat) = q1 := hq1
      clear hq1
      obtain ⟨gk, hgk⟩ := o1.form (by omega)
      subst hgk
      have k0 : w18.cell? ⟨gk, 0, none⟩ = some (.string b) := by have h9 := o1.cell stV_len (i := 0) (j := 0) rfl rfl; simpa using h9
      subst hq1'
      clear o1 o1_b la
      go_wp2_with fail
      refine (drawCom_any _ _ _ l _ (ha.below t18) hb).mono ?_
      rintro e w19 ⟨⟨Ac, qc, cc, lc, x2, z2, rfl, hqc, lcT, hx2, hz2⟩, b19⟩
      have t19 := below_trans t18 b19
      replace v0 := cell_below b19 v0
      replace v1 := cell_below b19 v1
      replace v2 := cell_below b19 v2
      replace u0 := cell_below b19 u0
      replace u1 := cell_below b19 u1
      replace u2 := cell_below b19 u2
      replace k0 := cell_below b19 k0
      clear k0
      clear v0 v1 v2 u0 u1 u2
      obtain ⟨lco, hgl⟩ := lcT
      have HG := Lib.hid (t1M hgl)
      have X2 := Lib.hid hx2
      have Z2 := Lib.hid hz2
      clear hx2 hz2 hgl
      have lco_b := lco
      have b21 := below_alloc2 (w := w19) (.cells #[.int .i64 x2.line, .string x2.old, .string x2.new] 25) (.cells #[.int .i64 z2.line, .string z2.old, .string z2.new] 25)
      have v0 : ((w19.alloc (.cells #[.int .i64 x2.line, .string x2.old, .string x2.new] 25)).alloc (.cells #[.int .i64 z2.line, .string z2.old, .string z2.new] 25)).cell? ⟨w19.heap.size, 0, none⟩ = some (.int .i64 x2.line) := cell_below (below_alloc _) (cell_of_row _ _ 0 _ _ _ (heap_new rfl))
      have v1 : ((w19.alloc (.cells #[.int .i64 x2.line, .string x2.old, .string x2.new] 25)).alloc (.cells #[.int .i64 z2.line, .string z2.old, .string z2.new] 25)).cell? ⟨w19.heap.size, 1, none⟩ = some (.string x2.old) := cell_below (below_alloc _) (cell_of_row _ _ 1 _ _ _ (heap_new rfl))
      have v2 : ((w19.alloc (.cells #[.int .i64 x2.line, .string x2.old, .string x2.new] 25)).alloc (.cells #[.int .i64 z2.line, .string z2.old, .string z2.new] 25)).cell? ⟨w19.heap.size, 2, none⟩ = some (.string x2.new) := cell_below (below_alloc _) (cell_of_row _ _ 2 _ _ _ (heap_new rfl))
      have u0 : ((w19.alloc (.cells #[.int .i64 x2.line, .string x2.old, .string x2.new] 25)).alloc (.cells #[.int .i64 z2.line, .string z2.old, .string z2.new] 25)).cell? ⟨w19.heap.size + 1, 0, none⟩ = some (.int .i64 z2.line) := cell_of_row _ _ 0 _ _ _ (heap_new ba0.symm)
      have u1 : ((w19.alloc (.cells #[.int .i64 x2.line, .string x2.old, .string x2.new] 25)).alloc (.cells #[.int .i64 z2.line, .string z2.old, .string z2.new] 25)).cell? ⟨w19.heap.size + 1, 1, none⟩ = some (.string z2.old) := cell_of_row _ _ 1 _ _ _ (heap_new ba0.symm)
      have u2 : ((w19.alloc (.cells #[.int .i64 x2.line, .string x2.old, .string x2.new] 25)).alloc (.cells #[.int .i64 z2.line, .string z2.old, .string z2.new] 25)).cell? ⟨w19.heap.size + 1, 2, none⟩ = some (.string z2.new) := cell_of_row _ _ 2 _ _ _ (heap_new ba0.symm)
      have t21 := below_trans t19 b21
      have lco := lco.below b21
      go_wp2_with fail
      generalize hgw21 : ((w19.alloc (.cells #[.int .i64 x2.line, .string x2.old, .string x2.new] 25)).alloc (.cells #[.int .i64 z2.line, .string z2.old, .string z2.new] 25)) = w21 at *
      clear hgw21
      refine (implDoCommute_any _ _ _ lc x2 z2 mx _ (lco.rd stV_len) (by omega) HG.out (co1M X2.out) (co1M Z2.out) (cell_below t21 HM.out)).mono ?_
      rintro e w22 ⟨rfl, b22⟩
      have t22 := below_trans t21 b22
      have lco := lco.below b22
      replace v0 := cell_below b22 v0
      replace v1 := cell_below b22 v1
      replace v2 := cell_below b22 v2
      replace u0 := cell_below b22 u0
      replace u1 := cell_below b22 u1
      replace u2 := cell_below b22 u2
      go_wp2_with fail
      refine (implDoCommute_any _ _ _ lc z2 x2 mx _ (lco.rd stV_len) (by omega) HG.out (co1M Z2.out) (co1M X2.out) (cell_below t22 HM.out)).mono ?_
      rintro e w23 ⟨rfl, b23⟩
      have t23 := below_trans t22 b23
      have lco := lco.below b23
      replace v0 := cell_below b23 v0
      replace v1 := cell_below b23 v1
      replace v2 := cell_below b23 v2
      replace u0 := cell_below b23 u0
      replace u1 := cell_below b23 u1
      replace u2 := cell_below b23 u2
      rw [(com_symm lc x2 z2).1, (com_symm lc x2 z2).2]
      go_wp2_with fail
      refine (specDoCommute_any _ _ _ lc x2 z2 _ (lco.rd stV_len) (by omega) HG.out (co1M X2.out) (co1M Z2.out)).mono ?_
      rintro e w24 ⟨rfl, b24⟩
      have t24 := below_trans t23 b24
      have lco := lco.below b24
      replace v0 := cell_below b24 v0
      replace v1 := cell_below b24 v1
      replace v2 := cell_below b24 v2
      replace u0 := cell_below b24 u0
      replace u1 := cell_below b24 u1
      replace u2 := cell_below b24 u2
      cases hkn : comG lc x2 z2
      · clear hkn
        go_wp2
        go_ret
        exact ⟨rfl, t24⟩
      · by_cases hli : x2.line = z2.line
        · clear hkn
          have hlb : (x2.line == z2.line) = true := by simpa using hli
          clear hli
          go_wp2
          go_ret
          exact ⟨rfl, t24⟩
        · rw [com_lines hkn hli]
          have hlb : (x2.line == z2.line) = false := by simpa using hli
          clear hkn hli
          go_wp2
          go_ret
          exact ⟨rfl, t24⟩
  · have HY : Hid (parC (corL x) = (x, true)) := corL_hit hok
    have HS := Lib.hid hs80
    generalize corL x = s at *
    clear hok
    have hs80 := HS.out
    go_wp2_with fail
    refine (implPC_at HY.out mx ev _ (by omega) (cell_below t4 HM.out) (pow10_below HT.out t4) (cell_below t4 HE.out) HEV.out).mono ?_
    rintro e w5 ⟨rfl, b5⟩
    have t5 := below_trans t4 b5
    replace v0 := cell_below b5 v0
    replace v1 := cell_below b5 v1
    replace v2 := cell_below b5 v2
    have b6 := below_alloc (w := w5) (.cells #[.int .i64 x.line, .string x.old, .string x.new] 25)
    have u0 : (w5.alloc (.cells #[.int .i64 x.line, .string x.old, .string x.new] 25)).cell? ⟨w5.heap.size, 0, none⟩ = some (.int .i64 x.line) := cell_of_row _ _ 0 _ _ _ (heap_new rfl)
    have u1 : (w5.alloc (.cells #[.int .i64 x.line, .string x.old, .string x.new] 25)).cell? ⟨w5.heap.size, 1, none⟩ = some (.string x.old) := cell_of_row _ _ 1 _ _ _ (heap_new rfl)
    have u2 : (w5.alloc (.cells #[.int .i64 x.line, .string x.old, .string x.new] 25)).cell? ⟨w5.heap.size, 2, none⟩ = some (.string x.new) := cell_of_row _ _ 2 _ _ _ (heap_new rfl)
    have t6 := below_trans t5 b6
    replace v0 := cell_below b6 v0
    replace v1 := cell_below b6 v1
    replace v2 := cell_below b6 v2
    go_wp2_with fail
    generalize hgw6 : w5.alloc (.cells #[.int .i64 x.line, .string x.old, .string x.new] 25) = w6 at *
    clear hgw6
    refine (drawParseC_any _ _ _ l _ (ha.below t6) hb).mono ?_
    rintro e w7 ⟨⟨t, rfl, ht⟩, b7⟩
    have t7 := below_trans t6 b7
    replace v0 := cell_below b7 v0
    replace v1 := cell_below b7 v1
    replace v2 := cell_below b7 v2
    replace u0 := cell_below b7 u0
    replace u1 := cell_below b7 u1
    replace u2 := cell_below b7 u2
    clear v0 v1 v2 u0 u1 u2
    obtain ⟨p, pb, hp⟩ : ∃ p pb, parC t = (p, pb) := ⟨_, _, (Prod.eta _).symm⟩
    have HP := Lib.hid hp
    clear hp
    go_wp2_with fail
    refine (implPC_at HP.out mx ev _ (by omega) (cell_below t7 HM.out) (pow10_below HT.out t7) (cell_below t7 HE.out) HEV.out).mono ?_
    rintro e w8 ⟨rfl, b8⟩
    have t8 := below_trans t7 b8
    have b9 := below_alloc (w := w8) (.cells #[.int .i64 p.line, .string p.old, .string p.new] 25)
    have v0 : (w8.alloc (.cells #[.int .i64 p.line, .string p.old, .string p.new] 25)).cell? ⟨w8.heap.size, 0, none⟩ = some (.int .i64 p.line) := cell_of_row _ _ 0 _ _ _ (heap_new rfl)
    have v1 : (w8.alloc (.cells #[.int .i64 p.line, .string p.old, .string p.new] 25)).cell? ⟨w8.heap.size, 1, none⟩ = some (.string p.old) := cell_of_row _ _ 1 _ _ _ (heap_new rfl)
    have v2 : (w8.alloc (.cells #[.int .i64 p.line, .string p.old, .string p.new] 25)).cell? ⟨w8.heap.size, 2, none⟩ = some (.string p.new) := cell_of_row _ _ 2 _ _ _ (heap_new rfl)
    have t9 := below_trans t8 b9
    go_wp2_with fail
    generalize hgw9 : w8.alloc (.cells #[.int .i64 p.line, .string p.old, .string p.new] 25) = w9 at *
    clear hgw9
    refine (specPC_at HP.out _ (by omega)).mono ?_
    rintro e w10 ⟨rfl, b10⟩
    have t10 := below_trans t9 b10
    replace v0 := cell_below b10 v0
    replace v1 := cell_below b10 v1
    replace v2 := cell_below b10 v2
    have b11 := below_alloc (w := w10) (.cells #[.int .i64 p.line, .string p.old, .string p.new] 25)
    have u0 : (w10.alloc (.cells #[.int .i64 p.line, .string p.old, .string p.new] 25)).cell? ⟨w10.heap.size, 0, none⟩ = some (.int .i64 p.line) := cell_of_row _ _ 0 _ _ _ (heap_new rfl)
    have u1 : (w10.alloc (.cells #[.int .i64 p.line, .string p.old, .string p.new] 25)).cell? ⟨w10.heap.size, 1, none⟩ = some (.string p.old) := cell_of_row _ _ 1 _ _ _ (heap_new rfl)
    have u2 : (w10.alloc (.cells #[.int .i64 p.line, .string p.old, .string p.new] 25)).cell? ⟨w10.heap.size, 2, none⟩ = some (.string p.new) := cell_of_row _ _ 2 _ _ _ (heap_new rfl)
    have t11 := below_trans t10 b11
    replace v0 := cell_below b11 v0
    replace v1 := cell_below b11 v1
    replace v2 := cell_below b11 v2
    go_wp2_with fail
    generalize hgw11 : w10.alloc (.cells #[.int .i64 p.line, .string p.old, .string p.new] 25) = w11 at *
    clear hgw11
    refine (drawShort_any _ _ _ l _ (ha.below t11) hb).mono ?_
    rintro e w12 ⟨⟨a, b, rfl, ha6, hb6⟩, b12⟩
    have t12 := below_trans t11 b12
    replace v0 := cell_below b12 v0
    replace v1 := cell_below b12 v1
    replace v2 := cell_below b12 v2
    replace u0 := cell_below b12 u0
    replace u1 := cell_below b12 u1
    replace u2 := cell_below b12 u2
    clear v0 v1 v2 u0 u1 u2
    have ham : a.size ≤ 1048576 := by omega
    have hbm : b.size ≤ 1048576 := by omega
    obtain ⟨y2, hy2⟩ : ∃ y, scC a b = y := ⟨_, rfl⟩
    have HY2 := Lib.hid hy2
    clear hy2
    cases hto : scG a b
    · have HTO := Lib.hid hto
      clear hto
      go_wp2_with fail
      refine (implSC_at HY2.out HTO.out mx _ ham hbm (cell_below t12 HM.out)).mono ?_
      rintro e w13 ⟨rfl, b13⟩
      have t13 := below_trans t12 b13
      have b14 := below_alloc (w := w13) (.cells #[.int .i64 y2.line, .string y2.old, .string y2.new] 25)
      have v0 : (w13.alloc (.cells #[.int .i64 y2.line, .string y2.old, .string y2.new] 25)).cell? ⟨w13.heap.size, 0, none⟩ = some (.int .i64 y2.line) := cell_of_row _ _ 0 _ _ _ (heap_new rfl)
      have v1 : (w13.alloc (.cells #[.int .i64 y2.line, .string y2.old, .string y2.new] 25)).cell? ⟨w13.heap.size, 1, none⟩ = some (.string y2.old) := cell_of_row _ _ 1 _ _ _ (heap_new rfl)
      have v2 : (w13.alloc (.cells #[.int .i64 y2.line, .string y2.old, .string y2.new] 25)).cell? ⟨w13.heap.size, 2, none⟩ = some (.string y2.new) := cell_of_row _ _ 2 _ _ _ (heap_new rfl)
      have t14 := below_trans t13 b14
      go_wp2_with fail
      generalize hgw14 : w13.alloc (.cells #[.int .i64 y2.line, .string y2.old, .string y2.new] 25) = w14 at *
      clear hgw14
      refine (specSC_at HY2.out HTO.out _ ham hbm).mono ?_
      rintro e w15 ⟨rfl, b15⟩
      have t15 := below_trans t14 b15
      replace v0 := cell_below b15 v0
      replace v1 := cell_below b15 v1
      replace v2 := cell_below b15 v2
      have b16 := below_alloc (w := w15) (.cells #[.int .i64 y2.line, .string y2.old, .string y2.new] 25)
      have u0 : (w15.alloc (.cells #[.int .i64 y2.line, .string y2.old, .string y2.new] 25)).cell? ⟨w15.heap.size, 0, none⟩ = some (.int .i64 y2.line) := cell_of_row _ _ 0 _ _ _ (heap_new rfl)
      have u1 : (w15.alloc (.cells #[.int .i64 y2.line, .string y2.old, .string y2.new] 25)).cell? ⟨w15.heap.size, 1, none⟩ = some (.string y2.old) := cell_of_row _ _ 1 _ _ _ (heap_new rfl)
      have u2 : (w15.alloc (.cells #[.int .i64 y2.line, .string y2.old, .string y2.new] 25)).cell? ⟨w15.heap.size, 2, none⟩ = some (.string y2.new) := cell_of_row _ _ 2 _ _ _ (heap_new rfl)
      have t16 := below_trans t15 b16
      replace v0 := cell_below b16 v0
      replace v1 := cell_below b16 v1
      replace v2 := cell_below b16 v2
      go_wp2_with fail
      generalize hgw16 : w15.alloc (.cells #[.int .i64 y2.line, .string y2.old, .string y2.new] 25) = w16 at *
      clear hgw16
      refine (drawCom_any _ _ _ l _ (ha.below t16) hb).mono ?_
      rintro e w17 ⟨⟨Ac, qc, cc, lc, x2, z2, rfl, hqc, lcT, hx2, hz2⟩, b17⟩
      have t17 := below_trans t16 b17
      replace v0 := cell_below b17 v0
      replace v1 := cell_below b17 v1
      replace v2 := cell_below b17 v2
      replace u0 := cell_below b17 u0
      replace u1 := cell_below b17 u1
      replace u2 := cell_below b17 u2
      clear v0 v1 v2 u0 u1 u2
      obtain ⟨lco, hgl⟩ := lcT
      have HG := Lib.hid (t1M hgl)
      have X2 := Lib.hid hx2
      have Z2 := Lib.hid hz2
      clear hx2 hz2 hgl
      have lco_b := lco
      have b19 := below_alloc2 (w := w17) (.cells #[.int .i64 x2.line, .string x2.old, .string x2.new] 25) (.cells #[.int .i64 z2.line, .string z2.old, .string z2.new] 25)
      have v0 : ((w17.alloc (.cells #[.int .i64 x2.line, .string x2.old, .string x2.new] 25)).alloc (.cells #[.int .i64 z2.line, .string z2.old, .string z2.new] 25)).cell? ⟨w17.heap.size, 0, none⟩ = some (.int .i64 x2.line) := cell_below (below_alloc _) (cell_of_row _ _ 0 _ _ _ (heap_new rfl))
      have v1 : ((w17.alloc (.cells #[.int .i64 x2.line, .string x2.old, .string x2.new] 25)).alloc (.cells #[.int .i64 z2.line, .string z2.old, .string z2.new] 25)).cell? ⟨w17.heap.size, 1, none⟩ = some (.string x2.old) := cell_below (below_alloc _) (cell_of_row _ _ 1 _ _ _ (heap_new rfl))
      have v2 : ((w17.alloc (.cells #[.int .i64 x2.line, .string x2.old, .string x2.new] 25)).alloc (.cells #[.int .i64 z2.line, .string z2.old, .string z2.new] 25)).cell? ⟨w17.heap.size, 2, none⟩ = some (.string x2.new) := cell_below (below_alloc _) (cell_of_row _ _ 2 _ _ _ (heap_new rfl))
      have u0 : ((w17.alloc (.cells #[.int .i64 x2.line, .string x2.old, .string x2.new] 25)).alloc (.cells #[.int .i64 z2.line, .string z2.old, .string z2.new] 25)).cell? ⟨w17.heap.size + 1, 0, none⟩ = some (.int .i64 z2.line) := cell_of_row _ _ 0 _ _ _ (heap_new ba0.symm)
      have u1 : ((w17.alloc (.cells #[.int .i64 x2.line, .string x2.old, .string x2.new] 25)).alloc (.cells #[.int .i64 z2.line, .string z2.old, .string z2.new] 25)).cell? ⟨w17.heap.size + 1, 1, none⟩ = some (.string z2.old) := cell_of_row _ _ 1 _ _ _ (heap_new ba0.symm)
      have u2 : ((w17.alloc (.cells #[.int .i64 x2.line, .string x2.old, .string x2.new] 25)).alloc (.cells #[.int .i64 z2.line, .string z2.old, .string z2.new] 25)).cell? ⟨w17.heap.size + 1, 2, none⟩ = some (.string z2.new) := cell_of_row _ _ 2 _ _ _ (heap_new ba0.symm)
      have t19 := below_trans t17 b19
      have lco := lco.below b19
      go_wp2_with fail
      generalize hgw19 : ((w17.alloc (.cells #[.int .i64 x2.line, .string x2.old, .string x2.new] 25)).alloc (.cells #[.int .i64 z2.line, .string z2.old, .string z2.new] 25)) = w19 at *
      clear hgw19
      refine (implDoCommute_any _ _ _ lc x2 z2 mx _ (lco.rd stV_len) (by omega) HG.out (co1M X2.out) (co1M Z2.out) (cell_below t19 HM.out)).mono ?_
      rintro e w20 ⟨rfl, b20⟩
      have t20 := below_trans t19 b20
      have lco := lco.below b20
      replace v0 := cell_below b20 v0
      replace v1 := cell_below b20 v1
      replace v2 := cell_below b20 v2
      replace u0 := cell_below b20 u0
      replace u1 := cell_below b20 u1
      replace u2 := cell_below b20 u2
      go_wp2_with fail
      refine (implDoCommute_any _ _ _ lc z2 x2 mx _ (lco.rd stV_len) (by omega) HG.out (co1M Z2.out) (co1M X2.out) (cell_below t20 HM.out)).mono ?_
      rintro e w21 ⟨rfl, b21⟩
      have t21 := below_trans t20 b21
      have lco := lco.below b21
      replace v0 := cell_below b21 v0
      replace v1 := cell_below b21 v1
      replace v2 := cell_below b21 v2
      replace u0 := cell_below b21 u0
      replace u1 := cell_below b21 u1
      replace u2 := cell_below b21 u2
      rw [(com_symm lc x2 z2).1, (com_symm lc x2 z2).2]
      go_wp2_with fail
      refine (specDoCommute_any _ _ _ lc x2 z2 _ (lco.rd stV_len) (by omega) HG.out (co1M X2.out) (co1M Z2.out)).mono ?_
      rintro e w22 ⟨rfl, b22⟩
      have t22 := below_trans t21 b22
      have lco := lco.below b22
      replace v0 := cell_below b22 v0
      replace v1 := cell_below b22 v1
      replace v2 := cell_below b22 v2
      replace u0 := cell_below b22 u0
      replace u1 := cell_below b22 u1
      replace u2 := cell_below b22 u2
      cases hkn : comG lc x2 z2
      · clear hkn
        go_wp2
        go_ret
        exact ⟨rfl, t22⟩
      · by_cases hli : x2.line = z2.line
        · clear hkn
          have hlb : (x2.line == z2.line) = true := by simpa using hli
          clear hli
          go_wp2
          go_ret
          exact ⟨rfl, t22⟩
        · rw [com_lines hkn hli]
          have hlb : (x2.line == z2.line) = false := by simpa using hli
          clear hkn hli
          go_wp2
          go_ret
          exact ⟨rfl, t22⟩
    · have HTO := Lib.hid hto
      clear hto
      go_wp2_with fail
      refine (implSC_at HY2.out HTO.out mx _ ham hbm (cell_below t12 HM.out)).mono ?_
      rintro e w13 ⟨rfl, b13⟩
      have t13 := below_trans t12 b13
      have b14 := below_alloc (w := w13) (.cells #[.int .i64 y2.line, .string y2.old, .string y2.new] 25)
      have v0 : (w13.alloc (.cells #[.int .i64 y2.line, .string y2.old, .string y2.new] 25)).cell? ⟨w13.heap.size, 0, none⟩ = some (.int .i64 y2.line) := cell_of_row _ _ 0 _ _ _ (heap_new rfl)
      have v1 : (w13.alloc (.cells #[.int .i64 y2.line, .string y2.old, .string y2.new] 25)).cell? ⟨w13.heap.size, 1, none⟩ = some (.string y2.old) := cell_of_row _ _ 1 _ _ _ (heap_new rfl)
      have v2 : (w13.alloc (.cells #[.int .i64 y2.line, .string y2.old, .string y2.new] 25)).cell? ⟨w13.heap.size, 2, none⟩ = some (.string y2.new) := cell_of_row _ _ 2 _ _ _ (heap_new rfl)
      have t14 := below_trans t13 b14
      go_wp2_with fail
      generalize hgw14 : w13.alloc (.cells #[.int .i64 y2.line, .string y2.old, .string y2.new] 25) = w14 at *
      clear hgw14
      refine (specSC_at HY2.out HTO.out _ ham hbm).mono ?_
      rintro e w15 ⟨rfl, b15⟩
      have t15 := below_trans t14 b15
      replace v0 := cell_below b15 v0
      replace v1 := cell_below b15 v1
      replace v2 := cell_below b15 v2
      obtain ⟨hsG, hsL⟩ := short_law HTO.out
      have HSZ := Lib.hid (short_sz HTO.out)
      rw [HY2.out] at hsG hsL HSZ
      have HSG := Lib.hid hsG
      have HSL := Lib.hid hsL
      clear hsG hsL
      have pb17 := below_alloc (w := w15) (.cells #[.int .i64 y2.line, .string y2.old, .string y2.new] 25)
      have qb17 := below_alloc (w := (w15.alloc (.cells #[.int .i64 y2.line, .string y2.old, .string y2.new] 25))) (.cells #[.string a] 9)
      have b17 := below_trans pb17 qb17
      have u0_1 : (w15.alloc (.cells #[.int .i64 y2.line, .string y2.old, .string y2.new] 25)).cell? ⟨w15.heap.size, 0, none⟩ = some (.int .i64 y2.line) := cell_of_row _ _ 0 _ _ _ (heap_new rfl)
      have u0 := cell_below qb17 u0_1
      have u1_1 : (w15.alloc (.cells #[.int .i64 y2.line, .string y2.old, .string y2.new] 25)).cell? ⟨w15.heap.size, 1, none⟩ = some (.string y2.old) := cell_of_row _ _ 1 _ _ _ (heap_new rfl)
      have u1 := cell_below qb17 u1_1
      have u2_1 : (w15.alloc (.cells #[.int .i64 y2.line, .string y2.old, .string y2.new] 25)).cell? ⟨w15.heap.size, 2, none⟩ = some (.string y2.new) := cell_of_row _ _ 2 _ _ _ (heap_new rfl)
      have u2 := cell_below qb17 u2_1
      have t17 := below_trans t15 b17
      have v0_1 := cell_below pb17 v0
      replace v0 := cell_below b17 v0
      have v1_1 := cell_below pb17 v1
      replace v1 := cell_below b17 v1
      have v2_1 := cell_below pb17 v2
      replace v2 := cell_below b17 v2
      have la : Own stV 1 ((w15.alloc (.cells #[.int .i64 y2.line, .string y2.old, .string y2.new] 25)).alloc (.cells #[.string a] 9)) w15.heap.size 9 (some ⟨w15.heap.size + 1, 0, none⟩) 1 1 [a] := by have h9 := own_one (enc := stV) (sz := 1) (w15.alloc (.cells #[.int .i64 y2.line, .string y2.old, .string y2.new] 25)) #[.string a] 9 (a) rfl rfl; rw [ba0] at h9; exact h9.base_le (by omega)
      go_wp2_with fail
      generalize hgw17 : ((w15.alloc (.cells #[.int .i64 y2.line, .string y2.old, .string y2.new] 25)).alloc (.cells #[.string a] 9)) = w17 at *
      clear hgw17 v0_1 v1_1 v2_1 u0_1 u1_1 u2_1
      refine (implCorrectSheet_any _ _ _ [a] y2 mx _ (la.rd stV_len) (by omega) (fun s hs => by rw [List.mem_singleton.1 hs]; exact ham) HSZ.out.1 HSZ.out.2 (cell_below t17 HM.out)).mono ?_
      rintro e w18 ⟨⟨A1, q1, c1, rfl, o1⟩, b18⟩
      have t18 := below_trans t17 b18
      have la := la.below b18
      replace v0 := cell_below b18 v0
      replace v1 := cell_below b18 v1
      replace v2 := cell_below b18 v2
      replace u0 := cell_below b18 u0
      replace u1 := cell_below b18 u1
      replace u2 := cell_below b18 u2
      have o1_b := o1
      rw [HSG.out]
      rw [HSL.out] at o1
      have hq1 := o1.len
      have hq1' : (1 : Nat) = q1 := hq1
      clear hq1
      obtain ⟨gk, hgk⟩ := o1.form (by omega)
      subst hgk
      have k0 : w18.cell? ⟨gk, 0, none⟩ = some (.string b) := by have h9 := o1.cell stV_len (i := 0) (j := 0) rfl rfl; simpa using h9
      subst hq1'
      clear o1 o1_b la
      go_wp2_with fail
      refine (drawCom_any _ _ _ l _ (ha.below t18) hb).mono ?_
      rintro e w19 ⟨⟨Ac, qc, cc, lc, x2, z2, rfl, hqc, lcT, hx2, hz2⟩, b19⟩
      have t19 := below_trans t18 b19
      replace v0 := cell_below b19 v0
      replace v1 := cell_below b19 v1
      replace v2 := cell_below b19 v2
      replace u0 := cell_below b19 u0
      replace u1 := cell_below b19 u1
      replace u2 := cell_below b19 u2
      replace k0 := cell_below b19 k0
      clear k0
      clear v0 v1 v2 u0 u1 u2
      obtain ⟨lco, hgl⟩ := lcT
      have HG := Lib.hid (t1M hgl)
      have X2 := Lib.hid hx2
      have Z2 := Lib.hid hz2
      clear hx2 hz2 hgl
      have lco_b := lco
      have b21 := below_alloc2 (w := w19) (.cells #[.int .i64 x2.line, .string x2.old, .string x2.new] 25) (.cells #[.int .i64 z2.line, .string z2.old, .string z2.new] 25)
      have v0 : ((w19.alloc (.cells #[.int .i64 x2.line, .string x2.old, .string x2.new] 25)).alloc (.cells #[.int .i64 z2.line, .string z2.old, .string z2.new] 25)).cell? ⟨w19.heap.size, 0, none⟩ = some (.int .i64 x2.line) := cell_below (below_alloc _) (cell_of_row _ _ 0 _ _ _ (heap_new rfl))
      have v1 : ((w19.alloc (.cells #[.int .i64 x2.line, .string x2.old, .string x2.new] 25)).alloc (.cells #[.int .i64 z2.line, .string z2.old, .string z2.new] 25)).cell? ⟨w19.heap.size, 1, none⟩ = some (.string x2.old) := cell_below (below_alloc _) (cell_of_row _ _ 1 _ _ _ (heap_new rfl))
      have v2 : ((w19.alloc (.cells #[.int .i64 x2.line, .string x2.old, .string x2.new] 25)).alloc (.cells #[.int .i64 z2.line, .string z2.old, .string z2.new] 25)).cell? ⟨w19.heap.size, 2, none⟩ = some (.string x2.new) := cell_below (below_alloc _) (cell_of_row _ _ 2 _ _ _ (heap_new rfl))
      have u0 : ((w19.alloc (.cells #[.int .i64 x2.line, .string x2.old, .string x2.new] 25)).alloc (.cells #[.int .i64 z2.line, .string z2.old, .string z2.new] 25)).cell? ⟨w19.heap.size + 1, 0, none⟩ = some (.int .i64 z2.line) := cell_of_row _ _ 0 _ _ _ (heap_new ba0.symm)
      have u1 : ((w19.alloc (.cells #[.int .i64 x2.line, .string x2.old, .string x2.new] 25)).alloc (.cells #[.int .i64 z2.line, .string z2.old, .string z2.new] 25)).cell? ⟨w19.heap.size + 1, 1, none⟩ = some (.string z2.old) := cell_of_row _ _ 1 _ _ _ (heap_new ba0.symm)
      have u2 : ((w19.alloc (.cells #[.int .i64 x2.line, .string x2.old, .string x2.new] 25)).alloc (.cells #[.int .i64 z2.line, .string z2.old, .string z2.new] 25)).cell? ⟨w19.heap.size + 1, 2, none⟩ = some (.string z2.new) := cell_of_row _ _ 2 _ _ _ (heap_new ba0.symm)
      have t21 := below_trans t19 b21
      have lco := lco.below b21
      go_wp2_with fail
      generalize hgw21 : ((w19.alloc (.cells #[.int .i64 x2.line, .string x2.old, .string x2.new] 25)).alloc (.cells #[.int .i64 z2.line, .string z2.old, .string z2.new] 25)) = w21 at *
      clear hgw21
      refine (implDoCommute_any _ _ _ lc x2 z2 mx _ (lco.rd stV_len) (by omega) HG.out (co1M X2.out) (co1M Z2.out) (cell_below t21 HM.out)).mono ?_
      rintro e w22 ⟨rfl, b22⟩
      have t22 := below_trans t21 b22
      have lco := lco.below b22
      replace v0 := cell_below b22 v0
      replace v1 := cell_below b22 v1
      replace v2 := cell_below b22 v2
      replace u0 := cell_below b22 u0
      replace u1 := cell_below b22 u1
      replace u2 := cell_below b22 u2
      go_wp2_with fail
      refine (implDoCommute_any _ _ _ lc z2 x2 mx _ (lco.rd stV_len) (by omega) HG.out (co1M Z2.out) (co1M X2.out) (cell_below t22 HM.out)).mono ?_
      rintro e w23 ⟨rfl, b23⟩
      have t23 := below_trans t22 b23
      have lco := lco.below b23
      replace v0 := cell_below b23 v0
      replace v1 := cell_below b23 v1
      replace v2 := cell_below b23 v2
      replace u0 := cell_below b23 u0
      replace u1 := cell_below b23 u1
      replace u2 := cell_below b23 u2
      rw [(com_symm lc x2 z2).1, (com_symm lc x2 z2).2]
      go_wp2_with fail
      refine (specDoCommute_any _ _ _ lc x2 z2 _ (lco.rd stV_len) (by omega) HG.out (co1M X2.out) (co1M Z2.out)).mono ?_
      rintro e w24 ⟨rfl, b24⟩
      have t24 := below_trans t23 b24
      have lco := lco.below b24
      replace v0 := cell_below b24 v0
      replace v1 := cell_below b24 v1
      replace v2 := cell_below b24 v2
      replace u0 := cell_below b24 u0
      replace u1 := cell_below b24 u1
      replace u2 := cell_below b24 u2
      cases hkn : comG lc x2 z2
      · clear hkn
        go_wp2
        go_ret
        exact ⟨rfl, t24⟩
      · by_cases hli : x2.line = z2.line
        · clear hkn
          have hlb : (x2.line == z2.line) = true := by simpa using hli
          clear hli
          go_wp2
          go_ret
          exact ⟨rfl, t24⟩
        · rw [com_lines hkn hli]
          have hlb : (x2.line == z2.line) = false := by simpa using hli
          clear hkn hli
          go_wp2
          go_ret
          exact ⟨rfl, t24⟩

set_option maxRecDepth 100000 in
theorem door_met (os : Os) (args : Array Value) : laidMetH Tryz.prog Rows.fnCorrectionTextsRow.laid ((World.laidAll Tryz.prog os Rows.fnCorrectionTextsRow.laid).forCall (fun _ _ => 0) ⟨#[], args, []⟩).memory :=
  by rw [MakeChecks.laidMetH_plain _ _ _ (by kernel_rfl)]; exact laidMet_laidAll _ (by kernel_rfl) (by kernel_rfl)

set_option maxRecDepth 100000 in
theorem lifted (os : Os) (started : os.Started) (H : Type) (enc : TypeId × Value → H) :
    ReturnsInHanded {} Tryz.checked os 3 .any (fun w args => (Rows.fnCorrectionTextsSpec.pre enc Tryz.prog Tryz.f3 [] false w args ∧ laidMetH Tryz.prog Rows.fnCorrectionTextsRow.laid w) ∧ sizedMet enc Tryz.prog Tryz.f3 (OpenSpec.ofChange Rows.fnCorrectionTextsSpec) false w args)
      (Rows.fnCorrectionTextsSpec.post enc Tryz.prog Tryz.f3 false true false false) := by
  refine handed_and_shaped (C := Tryz.checked) (X := fun w _ => laidMetH Tryz.prog Rows.fnCorrectionTextsRow.laid w) (fun _ _ _ hh h => h.of_heap hh) own started (by kernel_rfl) Tryz.func3
    (ChangeSpec.witness_shaped (enc := enc) (C := Tryz.checked) (os := os) (X := fun w _ => laidMetH Tryz.prog Rows.fnCorrectionTextsRow.laid w) false (World.laidAll Tryz.prog os Rows.fnCorrectionTextsRow.laid) #[.slice none 0 0] 8 (World.laidAll_os _ _ _) (World.shaped_of_ZipB (by kernel_rfl) (by kernel_rfl)) (by kernel_rfl) (by kernel_rfl) (by kernel_rfl) (door_met os _)) ?_
  intro W base args ds gs before hval0 hW hL hsh
  have hval : ∀ (j : Nat) t v, Tryz.f3.params[j]? = some t → args[j]? = some v → Value.okWide Tryz.prog W .any base t v := hval0
  have hW' := hW
  obtain ⟨p, q, hA0, hV, rfl, hfz, hnd⟩ := hW
  have hA : DataW.TrodAll enc Tryz.prog W 0 (fun _ => true) true Tryz.f3.params.toList args.toList ds p := hA0
  rw [Tryz.params3] at hA hval
  obtain ⟨v0, vs0, d0, ds0, p0, q0, hargs, rfl, rfl, h0, r0⟩ := trodAll_cons hA
  obtain ⟨rfl, rfl, rfl⟩ := trodAll_nil r0
  obtain rfl : args = #[v0] := by cases args; simp_all
  obtain ⟨rfl, rfl⟩ := trodVars_none hV
  obtain ⟨A0, n0, c0, l0, rfl, R0, G0⟩ := open_rd (ec := byV) Tryz.underlying22 (by kernel_rfl) (read_bytes) (by omega) byV_len (hval 0 22 v0 rfl rfl) h0
  obtain ⟨mx, hM⟩ := Tryz.laysM143.s1_3 W (show W.ShapedOpen Tryz.prog from hsh)
  have hT := pow10_of (by kernel_rfl) hL (List.Mem.tail _ (List.Mem.tail _ (List.Mem.head _)))
  obtain ⟨ev, hE, hev⟩ := errSyntax_of (by kernel_rfl) hL (List.Mem.tail _ (List.Mem.tail _ (List.Mem.tail _ (List.Mem.tail _ (List.Mem.tail _ (List.Mem.head _))))))
  refine (walk A0 n0 c0 l0 mx W hT ev hE hev R0 G0 hM).mono fun e W' ⟨he, hb⟩ => ?_
  subst he
  exact ⟨_, rfl, law_post laidOut (by kernel_rfl) (by kernel_rfl) Tryz.underlying4 rfl hW' rfl rfl rfl hb⟩

theorem over : Rows.fnCorrectionTextsRow.holds Tryz.pinned (OpenSpec.ofChange Rows.fnCorrectionTextsSpec) :=
  OpenClaim.holds_of_wide 3 Tryz.f3 rfl rfl rfl rfl rfl rfl rfl ⟨rfl, rfl, rfl, rfl, rfl⟩ rfl rfl rfl rfl rfl (by kernel_rfl) Tryz.func3 (by kernel_rfl)
    (of_decide_eq_true (by kernel_rfl)) (by unfold Func.isWrapper; rw [if_neg (of_decide_eq_false (by kernel_rfl))]; exact ⟨rfl, rfl⟩)
    (fun os started H enc _ => lifted os started H enc)

theorem proved : Rows.FnCorrectionTextsCardSaid :=
  Claim7.holds_tied_plain_at .later [] [.data, .data, .data, .data, .sentinel, .sentinel, .pinned] true (true, "102e0fd979319ffd8b0371c48aef72c24568c95332bf9a4e63720ac39fc95a8e") true
    over (fun _ h => by cases h) (by kernel_rfl) (fun _ h => by cases h) fnCorrectionTexts_row_tie rfl ⟨rfl, rfl⟩ (by kernel_rfl) rfl
    (fun f fn hf hfn => by
      obtain rfl : f = 3 := Option.some.inj ((show Tryz.prog.funcNamed "loop.example/g00909/laws.FnCorrectionTexts" = some 3 by kernel_rfl).symm.trans hf) |>.symm
      obtain rfl : fn = Tryz.f3 := (Option.some.inj (Tryz.func3.symm.trans hfn)).symm
      exact ⟨by kernel_rfl, fun j t ht => by
        have hall : (Tryz.f3.params.toList.all fun u => !Tryz.prog.wantsStandIn u) = true := by kernel_rfl
        have hm : t ∈ Tryz.f3.params.toList := Array.mem_toList_iff.2 (Array.mem_of_getElem? ht)
        exact (show Tryz.prog.wantsStandIn t = false by simpa using List.all_eq_true.1 hall t hm)⟩)
    (by kernel_rfl)
#print axioms proved
end Go.Proofs.YtmahfkimeclcbaaGreatDoor.fnCorrectionTexts
