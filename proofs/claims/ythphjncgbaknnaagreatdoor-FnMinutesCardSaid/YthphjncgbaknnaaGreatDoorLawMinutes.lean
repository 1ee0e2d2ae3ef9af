/- FnMinutes: for every code of at most 65536 bytes: EntryText, ParseEntry, MinutesText and ParseMinutes answer as the reference at what is drawn, and entries and minutes are recovered from their sentences. No condition.
-/
import Derived.Test.YthphjncgbaknnaaGreatDoorRead
import Derived.Test.YthphjncgbaknnaaGreatDoorCards
import Derived.Test.YthphjncgbaknnaaGreatDoorTie
import Derived.ProofKit
import Derived.LaidMore
import Derived.OpenShut
import Derived.Stop.Joined
import Derived.SevenTiedAt
import Derived.Test.YthphjncgbaknnaaGreatDoorDoor
import Derived.Lay
import Derived.Test.YthphjncgbaknnaaGreatDoorErr
import Derived.Test.YthphjncgbaknnaaGreatDoorByt
import Derived.Test.YthphjncgbaknnaaGreatDoorMinDr
import Derived.Test.YthphjncgbaknnaaGreatDoorVee
import Derived.HandedShaped
namespace Go.Proofs.YthphjncgbaknnaaGreatDoor.fnMinutes
open Go Go.ChangeShapes Go.WideShapes Go.ChangeAt Go.RowKit Go.Sort
open Go.ChangeMaps (open_string)
set_option linter.unusedVariables false

theorem own : ownKnob Tryz.prog.godebug = none := by kernel_rfl
theorem laidOut : laidOutB Tryz.prog = true := by kernel_rfl

set_option maxRecDepth 100000 in
set_option maxHeartbeats 8000000 in
theorem walk (A : Option Addr) (n c : Nat) (l : List Int) (mx : Int) (w : World) (hT : Lib.TabIs Tryz.prog w "internal/strconv.uint64pow10" .u64 Lib.pow10Tab) (ev : Value) (hE : w.cell? ⟨4, 0, none⟩ = some ev) (hev : ev = .nilIface ∨ ∃ te pe, ev = .iface te pe) (ha : Rd byV 1 w A n c l) (hb : ∀ x ∈ l, 0 ≤ x ∧ x ≤ 255) (hM : w.cell? ⟨0, 0, none⟩ = some (.int .i64 mx)) :
    Calls Tryz.prog 3 #[.slice A n c] w fun e w' => e = .returned (.bool true) ∧ Below w.heap.size w w' := by
  have HM := Lib.hid hM
  have HT := Lib.hid hT
  have HE := Lib.hid hE
  have HEV := Lib.hid hev
  clear hM hT hE hev
  have hm := ha.le
  go_enter Tryz.func3, Tryz.ntmps3
  go_wp2_with fail
  refine (vBig_any _ _ _ _ hm).mono ?_
  rintro e wx ⟨rfl, rfl⟩
  by_cases hbig : (65536 : Int) < (n : Int)
  · go_wp2
    go_ret
    exact ⟨rfl, Below.refl _ _⟩
  go_wp2_with fail
  refine (drawEntryText_any _ _ _ l _ ha hb).mono ?_
  rintro e w1 ⟨⟨x, rfl, hx⟩, b1⟩
  have t1 := b1
  have X := Lib.hid hx
  clear hx
  have b2 := below_alloc (w := w1) (.cells #[.int .i64 x.kind, .string x.who, .string x.mo, .int .i64 x.yes, .int .i64 x.no, .int .i64 x.ab, .bool x.pa] 27)
  have v0 : (w1.alloc (.cells #[.int .i64 x.kind, .string x.who, .string x.mo, .int .i64 x.yes, .int .i64 x.no, .int .i64 x.ab, .bool x.pa] 27)).cell? ⟨w1.heap.size, 0, none⟩ = some (.int .i64 x.kind) := cell_of_row _ _ 0 _ _ _ (heap_new rfl)
  have v1 : (w1.alloc (.cells #[.int .i64 x.kind, .string x.who, .string x.mo, .int .i64 x.yes, .int .i64 x.no, .int .i64 x.ab, .bool x.pa] 27)).cell? ⟨w1.heap.size, 1, none⟩ = some (.string x.who) := cell_of_row _ _ 1 _ _ _ (heap_new rfl)
  have v2 : (w1.alloc (.cells #[.int .i64 x.kind, .string x.who, .string x.mo, .int .i64 x.yes, .int .i64 x.no, .int .i64 x.ab, .bool x.pa] 27)).cell? ⟨w1.heap.size, 2, none⟩ = some (.string x.mo) := cell_of_row _ _ 2 _ _ _ (heap_new rfl)
  have v3 : (w1.alloc (.cells #[.int .i64 x.kind, .string x.who, .string x.mo, .int .i64 x.yes, .int .i64 x.no, .int .i64 x.ab, .bool x.pa] 27)).cell? ⟨w1.heap.size, 3, none⟩ = some (.int .i64 x.yes) := cell_of_row _ _ 3 _ _ _ (heap_new rfl)
  have v4 : (w1.alloc (.cells #[.int .i64 x.kind, .string x.who, .string x.mo, .int .i64 x.yes, .int .i64 x.no, .int .i64 x.ab, .bool x.pa] 27)).cell? ⟨w1.heap.size, 4, none⟩ = some (.int .i64 x.no) := cell_of_row _ _ 4 _ _ _ (heap_new rfl)
  have v5 : (w1.alloc (.cells #[.int .i64 x.kind, .string x.who, .string x.mo, .int .i64 x.yes, .int .i64 x.no, .int .i64 x.ab, .bool x.pa] 27)).cell? ⟨w1.heap.size, 5, none⟩ = some (.int .i64 x.ab) := cell_of_row _ _ 5 _ _ _ (heap_new rfl)
  have v6 : (w1.alloc (.cells #[.int .i64 x.kind, .string x.who, .string x.mo, .int .i64 x.yes, .int .i64 x.no, .int .i64 x.ab, .bool x.pa] 27)).cell? ⟨w1.heap.size, 6, none⟩ = some (.bool x.pa) := cell_of_row _ _ 6 _ _ _ (heap_new rfl)
  have t2 := below_trans t1 b2
  go_wp2_with fail
  generalize hgw2 : w1.alloc (.cells #[.int .i64 x.kind, .string x.who, .string x.mo, .int .i64 x.yes, .int .i64 x.no, .int .i64 x.ab, .bool x.pa] 27) = w2 at *
  clear hgw2
  refine (implEntryText_any x _ (pow10_below HT.out t2) (ens_sz X.out).1 (ens_sz X.out).2).mono ?_
  rintro e w3 ⟨rfl, b3⟩
  have t3 := below_trans t2 b3
  replace v0 := cell_below b3 v0
  replace v1 := cell_below b3 v1
  replace v2 := cell_below b3 v2
  replace v3 := cell_below b3 v3
  replace v4 := cell_below b3 v4
  replace v5 := cell_below b3 v5
  replace v6 := cell_below b3 v6
  go_wp2_with fail
  refine (specEntryText_any x _ (ens_sz X.out).1 (ens_sz X.out).2).mono ?_
  rintro e w4 ⟨rfl, b4⟩
  have t4 := below_trans t3 b4
  replace v0 := cell_below b4 v0
  replace v1 := cell_below b4 v1
  replace v2 := cell_below b4 v2
  replace v3 := cell_below b4 v3
  replace v4 := cell_below b4 v4
  replace v5 := cell_below b4 v5
  replace v6 := cell_below b4 v6
  go_wp2_with fail
  refine (implEntry_any x _ (ens_sz X.out).1 (ens_sz X.out).2).mono ?_
  rintro e w5 ⟨rfl, b5⟩
  have t5 := below_trans t4 b5
  replace v0 := cell_below b5 v0
  replace v1 := cell_below b5 v1
  replace v2 := cell_below b5 v2
  replace v3 := cell_below b5 v3
  replace v4 := cell_below b5 v4
  replace v5 := cell_below b5 v5
  replace v6 := cell_below b5 v6
  have hs80 := senL_80 x
  cases hok : enOK x
  · obtain ⟨y, yb, hy⟩ : ∃ y yb, parE (senL x) = (y, yb) := ⟨_, _, rfl⟩
    have HY := Lib.hid hy
    clear hy
    have HS := Lib.hid hs80
    generalize senL x = s at *
    clear hok
    have hs80 := HS.out
    go_wp2_with fail
    refine (implPE_at HY.out mx ev _ (by omega) (cell_below t5 HM.out) (pow10_below HT.out t5) (cell_below t5 HE.out) HEV.out).mono ?_
    rintro e w6 ⟨rfl, b6⟩
    have t6 := below_trans t5 b6
    replace v0 := cell_below b6 v0
    replace v1 := cell_below b6 v1
    replace v2 := cell_below b6 v2
    replace v3 := cell_below b6 v3
    replace v4 := cell_below b6 v4
    replace v5 := cell_below b6 v5
    replace v6 := cell_below b6 v6
    have b7 := below_alloc (w := w6) (.cells #[.int .i64 y.kind, .string y.who, .string y.mo, .int .i64 y.yes, .int .i64 y.no, .int .i64 y.ab, .bool y.pa] 27)
    have u0 : (w6.alloc (.cells #[.int .i64 y.kind, .string y.who, .string y.mo, .int .i64 y.yes, .int .i64 y.no, .int .i64 y.ab, .bool y.pa] 27)).cell? ⟨w6.heap.size, 0, none⟩ = some (.int .i64 y.kind) := cell_of_row _ _ 0 _ _ _ (heap_new rfl)
    have u1 : (w6.alloc (.cells #[.int .i64 y.kind, .string y.who, .string y.mo, .int .i64 y.yes, .int .i64 y.no, .int .i64 y.ab, .bool y.pa] 27)).cell? ⟨w6.heap.size, 1, none⟩ = some (.string y.who) := cell_of_row _ _ 1 _ _ _ (heap_new rfl)
    have u2 : (w6.alloc (.cells #[.int .i64 y.kind, .string y.who, .string y.mo, .int .i64 y.yes, .int .i64 y.no, .int .i64 y.ab, .bool y.pa] 27)).cell? ⟨w6.heap.size, 2, none⟩ = some (.string y.mo) := cell_of_row _ _ 2 _ _ _ (heap_new rfl)
    have u3 : (w6.alloc (.cells #[.int .i64 y.kind, .string y.who, .string y.mo, .int .i64 y.yes, .int .i64 y.no, .int .i64 y.ab, .bool y.pa] 27)).cell? ⟨w6.heap.size, 3, none⟩ = some (.int .i64 y.yes) := cell_of_row _ _ 3 _ _ _ (heap_new rfl)
    have u4 : (w6.alloc (.cells #[.int .i64 y.kind, .string y.who, .string y.mo, .int .i64 y.yes, .int .i64 y.no, .int .i64 y.ab, .bool y.pa] 27)).cell? ⟨w6.heap.size, 4, none⟩ = some (.int .i64 y.no) := cell_of_row _ _ 4 _ _ _ (heap_new rfl)
    have u5 : (w6.alloc (.cells #[.int .i64 y.kind, .string y.who, .string y.mo, .int .i64 y.yes, .int .i64 y.no, .int .i64 y.ab, .bool y.pa] 27)).cell? ⟨w6.heap.size, 5, none⟩ = some (.int .i64 y.ab) := cell_of_row _ _ 5 _ _ _ (heap_new rfl)
    have u6 : (w6.alloc (.cells #[.int .i64 y.kind, .string y.who, .string y.mo, .int .i64 y.yes, .int .i64 y.no, .int .i64 y.ab, .bool y.pa] 27)).cell? ⟨w6.heap.size, 6, none⟩ = some (.bool y.pa) := cell_of_row _ _ 6 _ _ _ (heap_new rfl)
    have t7 := below_trans t6 b7
    replace v0 := cell_below b7 v0
    replace v1 := cell_below b7 v1
    replace v2 := cell_below b7 v2
    replace v3 := cell_below b7 v3
    replace v4 := cell_below b7 v4
    replace v5 := cell_below b7 v5
    replace v6 := cell_below b7 v6
    go_wp2_with fail
    generalize hgw7 : w6.alloc (.cells #[.int .i64 y.kind, .string y.who, .string y.mo, .int .i64 y.yes, .int .i64 y.no, .int .i64 y.ab, .bool y.pa] 27) = w7 at *
    clear hgw7
    refine (drawParseEntry_any _ _ _ l _ (ha.below t7) hb).mono ?_
    rintro e w8 ⟨⟨t, rfl, ht⟩, b8⟩
    have t8 := below_trans t7 b8
    replace v0 := cell_below b8 v0
    replace v1 := cell_below b8 v1
    replace v2 := cell_below b8 v2
    replace v3 := cell_below b8 v3
    replace v4 := cell_below b8 v4
    replace v5 := cell_below b8 v5
    replace v6 := cell_below b8 v6
    replace u0 := cell_below b8 u0
    replace u1 := cell_below b8 u1
    replace u2 := cell_below b8 u2
    replace u3 := cell_below b8 u3
    replace u4 := cell_below b8 u4
    replace u5 := cell_below b8 u5
    replace u6 := cell_below b8 u6
    clear v0 v1 v2 v3 v4 v5 v6 u0 u1 u2 u3 u4 u5 u6
    obtain ⟨p, pb, hp⟩ : ∃ p pb, parE t = (p, pb) := ⟨_, _, rfl⟩
    have HP := Lib.hid hp
    clear hp
    go_wp2_with fail
    refine (implPE_at HP.out mx ev _ (by omega) (cell_below t8 HM.out) (pow10_below HT.out t8) (cell_below t8 HE.out) HEV.out).mono ?_
    rintro e w9 ⟨rfl, b9⟩
    have t9 := below_trans t8 b9
    have b10 := below_alloc (w := w9) (.cells #[.int .i64 p.kind, .string p.who, .string p.mo, .int .i64 p.yes, .int .i64 p.no, .int .i64 p.ab, .bool p.pa] 27)
    have v0 : (w9.alloc (.cells #[.int .i64 p.kind, .string p.who, .string p.mo, .int .i64 p.yes, .int .i64 p.no, .int .i64 p.ab, .bool p.pa] 27)).cell? ⟨w9.heap.size, 0, none⟩ = some (.int .i64 p.kind) := cell_of_row _ _ 0 _ _ _ (heap_new rfl)
    have v1 : (w9.alloc (.cells #[.int .i64 p.kind, .string p.who, .string p.mo, .int .i64 p.yes, .int .i64 p.no, .int .i64 p.ab, .bool p.pa] 27)).cell? ⟨w9.heap.size, 1, none⟩ = some (.string p.who) := cell_of_row _ _ 1 _ _ _ (heap_new rfl)
    have v2 : (w9.alloc (.cells #[.int .i64 p.kind, .string p.who, .string p.mo, .int .i64 p.yes, .int .i64 p.no, .int .i64 p.ab, .bool p.pa] 27)).cell? ⟨w9.heap.size, 2, none⟩ = some (.string p.mo) := cell_of_row _ _ 2 _ _ _ (heap_new rfl)
    have v3 : (w9.alloc (.cells #[.int .i64 p.kind, .string p.who, .string p.mo, .int .i64 p.yes, .int .i64 p.no, .int .i64 p.ab, .bool p.pa] 27)).cell? ⟨w9.heap.size, 3, none⟩ = some (.int .i64 p.yes) := cell_of_row _ _ 3 _ _ _ (heap_new rfl)
    have v4 : (w9.alloc (.cells #[.int .i64 p.kind, .string p.who, .string p.mo, .int .i64 p.yes, .int .i64 p.no, .int .i64 p.ab, .bool p.pa] 27)).cell? ⟨w9.heap.size, 4, none⟩ = some (.int .i64 p.no) := cell_of_row _ _ 4 _ _ _ (heap_new rfl)
    have v5 : (w9.alloc (.cells #[.int .i64 p.kind, .string p.who, .string p.mo, .int .i64 p.yes, .int .i64 p.no, .int .i64 p.ab, .bool p.pa] 27)).cell? ⟨w9.heap.size, 5, none⟩ = some (.int .i64 p.ab) := cell_of_row _ _ 5 _ _ _ (heap_new rfl)
    have v6 : (w9.alloc (.cells #[.int .i64 p.kind, .string p.who, .string p.mo, .int .i64 p.yes, .int .i64 p.no, .int .i64 p.ab, .bool p.pa] 27)).cell? ⟨w9.heap.size, 6, none⟩ = some (.bool p.pa) := cell_of_row _ _ 6 _ _ _ (heap_new rfl)
    have t10 := below_trans t9 b10
    go_wp2_with fail
    generalize hgw10 : w9.alloc (.cells #[.int .i64 p.kind, .string p.who, .string p.mo, .int .i64 p.yes, .int .i64 p.no, .int .i64 p.ab, .bool p.pa] 27) = w10 at *
    clear hgw10
    refine (specPE_at HP.out _ (by omega)).mono ?_
    rintro e w11 ⟨rfl, b11⟩
    have t11 := below_trans t10 b11
    replace v0 := cell_below b11 v0
    replace v1 := cell_below b11 v1
    replace v2 := cell_below b11 v2
    replace v3 := cell_below b11 v3
    replace v4 := cell_below b11 v4
    replace v5 := cell_below b11 v5
    replace v6 := cell_below b11 v6
    have b12 := below_alloc (w := w11) (.cells #[.int .i64 p.kind, .string p.who, .string p.mo, .int .i64 p.yes, .int .i64 p.no, .int .i64 p.ab, .bool p.pa] 27)
    have u0 : (w11.alloc (.cells #[.int .i64 p.kind, .string p.who, .string p.mo, .int .i64 p.yes, .int .i64 p.no, .int .i64 p.ab, .bool p.pa] 27)).cell? ⟨w11.heap.size, 0, none⟩ = some (.int .i64 p.kind) := cell_of_row _ _ 0 _ _ _ (heap_new rfl)
    have u1 : (w11.alloc (.cells #[.int .i64 p.kind, .string p.who, .string p.mo, .int .i64 p.yes, .int .i64 p.no, .int .i64 p.ab, .bool p.pa] 27)).cell? ⟨w11.heap.size, 1, none⟩ = some (.string p.who) := cell_of_row _ _ 1 _ _ _ (heap_new rfl)
    have u2 : (w11.alloc (.cells #[.int .i64 p.kind, .string p.who, .string p.mo, .int .i64 p.yes, .int .i64 p.no, .int .i64 p.ab, .bool p.pa] 27)).cell? ⟨w11.heap.size, 2, none⟩ = some (.string p.mo) := cell_of_row _ _ 2 _ _ _ (heap_new rfl)
    have u3 : (w11.alloc (.cells #[.int .i64 p.kind, .string p.who, .string p.mo, .int .i64 p.yes, .int .i64 p.no, .int .i64 p.ab, .bool p.pa] 27)).cell? ⟨w11.heap.size, 3, none⟩ = some (.int .i64 p.yes) := cell_of_row _ _ 3 _ _ _ (heap_new rfl)
    have u4 : (w11.alloc (.cells #[.int .i64 p.kind, .string p.who, .string p.mo, .int .i64 p.yes, .int .i64 p.no, .int .i64 p.ab, .bool p.pa] 27)).cell? ⟨w11.heap.size, 4, none⟩ = some (.int .i64 p.no) := cell_of_row _ _ 4 _ _ _ (heap_new rfl)
    have u5 : (w11.alloc (.cells #[.int .i64 p.kind, .string p.who, .string p.mo, .int .i64 p.yes, .int .i64 p.no, .int .i64 p.ab, .bool p.pa] 27)).cell? ⟨w11.heap.size, 5, none⟩ = some (.int .i64 p.ab) := cell_of_row _ _ 5 _ _ _ (heap_new rfl)
    have u6 : (w11.alloc (.cells #[.int .i64 p.kind, .string p.who, .string p.mo, .int .i64 p.yes, .int .i64 p.no, .int .i64 p.ab, .bool p.pa] 27)).cell? ⟨w11.heap.size, 6, none⟩ = some (.bool p.pa) := cell_of_row _ _ 6 _ _ _ (heap_new rfl)
    have t12 := below_trans t11 b12
    replace v0 := cell_below b12 v0
    replace v1 := cell_below b12 v1
    replace v2 := cell_below b12 v2
    replace v3 := cell_below b12 v3
    replace v4 := cell_below b12 v4
    replace v5 := cell_below b12 v5
    replace v6 := cell_below b12 v6
    go_wp2_with fail
    generalize hgw12 : w11.alloc (.cells #[.int .i64 p.kind, .string p.who, .string p.mo, .int .i64 p.yes, .int .i64 p.no, .int .i64 p.ab, .bool p.pa] 27) = w12 at *
    clear hgw12
    refine (drawMinutes_any _ _ _ l _ (ha.below t12) hb).mono ?_
    rintro e w13 ⟨⟨A1, q1, c1, lp, rfl, hq1, ⟨o1, hgs1⟩⟩, b13⟩
    have t13 := below_trans t12 b13
    replace v0 := cell_below b13 v0
    replace v1 := cell_below b13 v1
    replace v2 := cell_below b13 v2
    replace v3 := cell_below b13 v3
    replace v4 := cell_below b13 v4
    replace v5 := cell_below b13 v5
    replace v6 := cell_below b13 v6
    replace u0 := cell_below b13 u0
    replace u1 := cell_below b13 u1
    replace u2 := cell_below b13 u2
    replace u3 := cell_below b13 u3
    replace u4 := cell_below b13 u4
    replace u5 := cell_below b13 u5
    replace u6 := cell_below b13 u6
    have o1_b := o1
    clear v0 v1 v2 v3 v4 v5 v6 u0 u1 u2 u3 u4 u5 u6
    have hsz : ∀ x ∈ lp, EnSz x := fun x hx => ens_sz (hgs1 x hx)
    go_wp2_with fail
    refine (implMinutesText_any _ _ _ _ _ (pow10_below HT.out t13) (o1.rd enV_len) hsz).mono ?_
    rintro e w14 ⟨rfl, b14⟩
    have t14 := below_trans t13 b14
    have o1 := o1.below b14
    go_wp2_with fail
    refine (specMinutesText_any _ _ _ _ _ (o1.rd enV_len) hsz).mono ?_
    rintro e w15 ⟨rfl, b15⟩
    have t15 := below_trans t14 b15
    have o1 := o1.below b15
    have hm17 := menL_1700 lp
    cases hto : minB lp
    · have HM17 := Lib.hid hm17
      generalize menL lp = s at *
      clear hto
      have hm17 := HM17.out
      go_wp2_with fail
      refine (implParseMinutes_any _ mx ev _ (by omega) (cell_below t15 HM.out) (pow10_below HT.out t15) (cell_below t15 HE.out) HEV.out).mono ?_
      rintro e w16 ⟨⟨A2, q2, c2, rfl, o2⟩, b16⟩
      have t16 := below_trans t15 b16
      have o1 := o1.below b16
      have o2_b := o2
      go_wp2_with fail
      refine (drawParseMinutes_any _ _ _ l _ (ha.below t16) hb).mono ?_
      rintro e w17 ⟨⟨u, rfl, hu⟩, b17⟩
      have t17 := below_trans t16 b17
      have o1 := o1.below b17
      have o2 := o2.below b17
      go_wp2_with fail
      refine (implParseMinutes_any u mx ev _ (by omega) (cell_below t17 HM.out) (pow10_below HT.out t17) (cell_below t17 HE.out) HEV.out).mono ?_
      rintro e w18 ⟨⟨A3, q3, c3, rfl, o3⟩, b18⟩
      have t18 := below_trans t17 b18
      have o1 := o1.below b18
      have o2 := o2.below b18
      have o3_b := o3
      go_wp2_with fail
      refine (specParseMinutes_any u _ (by omega)).mono ?_
      rintro e w19 ⟨⟨A4, q4, c4, rfl, o4⟩, b19⟩
      have t19 := below_trans t18 b19
      have o1 := o1.below b19
      have o2 := o2.below b19
      have o3 := o3.below b19
      have o4_b := o4
      go_wp2_with fail
      refine (rEntries_same _ _ _ _ _ _ _ _ (o3.rd enV_len) (o4.rd enV_len)).mono ?_
      rintro e w20 ⟨rfl, b20⟩
      have t20 := below_trans t19 b20
      have o1 := o1.below b20
      have o2 := o2.below b20
      have o3 := o3.below b20
      have o4 := o4.below b20
      go_wp2
      go_ret
      exact ⟨rfl, t20⟩
    · have HH : Hid (parM (menL lp) = (lp, true)) := menL_hit hto
      have HM17 := Lib.hid hm17
      generalize menL lp = s at *
      clear hto
      have hm17 := HM17.out
      go_wp2_with fail
      refine (implParseMinutes_any _ mx ev _ (by omega) (cell_below t15 HM.out) (pow10_below HT.out t15) (cell_below t15 HE.out) HEV.out).mono ?_
      rintro e w16 ⟨⟨A2, q2, c2, rfl, o2⟩, b16⟩
      have t16 := below_trans t15 b16
      have o1 := o1.below b16
      have o2_b := o2
      have hqb : Own enV 7 w16 _ _ _ _ _ lp := (by have h9 := o2; rw [HH.out] at h9; exact h9)
      rw [HH.out]
      replace o2 := hqb
      replace o2_b := hqb
      clear hqb
      go_wp2_with fail
      refine (rEntries_same _ _ _ _ _ _ lp _ (o2.rd enV_len) (o1.rd enV_len)).mono ?_
      rintro e w17 ⟨rfl, b17⟩
      have t17 := below_trans t16 b17
      have o1 := o1.below b17
      have o2 := o2.below b17
      go_wp2_with fail
      refine (drawParseMinutes_any _ _ _ l _ (ha.below t17) hb).mono ?_
      rintro e w18 ⟨⟨u, rfl, hu⟩, b18⟩
      have t18 := below_trans t17 b18
      have o1 := o1.below b18
      have o2 := o2.below b18
      go_wp2_with fail
      refine (implParseMinutes_any u mx ev _ (by omega) (cell_below t18 HM.out) (pow10_below HT.out t18) (cell_below t18 HE.out) HEV.out).mono ?_
      rintro e w19 ⟨⟨A3, q3, c3, rfl, o3⟩, b19⟩
      have t19 := below_trans t18 b19
      have o1 := o1.below b19
      have o2 := o2.below b19
      have o3_b := o3
      go_wp2_with fail
      refine (specParseMinutes_any u _ (by omega)).mono ?_
      rintro e w20 ⟨⟨A4, q4, c4, rfl, o4⟩, b20⟩
      have t20 := below_trans t19 b20
      have o1 := o1.below b20
      have o2 := o2.below b20
      have o3 := o3.below b20
      have o4_b := o4
      go_wp2_with fail
      refine (rEntries_same _ _ _ _ _ _ _ _ (o3.rd enV_len) (o4.rd enV_len)).mono ?_
      rintro e w21 ⟨rfl, b21⟩
      have t21 := below_trans t20 b21
      have o1 := o1.below b21
      have o2 := o2.below b21
      have o3 := o3.below b21
      have o4 := o4.below b21
      go_wp2
      go_ret
      exact ⟨rfl, t21⟩
  · have HY : Hid (parE (senL x) = (x, true)) := senL_hit hok
    have HS := Lib.hid hs80
    generalize senL x = s at *
    clear hok
    have hs80 := HS.out
    go_wp2_with fail
    refine (implPE_at HY.out mx ev _ (by omega) (cell_below t5 HM.out) (pow10_below HT.out t5) (cell_below t5 HE.out) HEV.out).mono ?_
    rintro e w6 ⟨rfl, b6⟩
    have t6 := below_trans t5 b6
    replace v0 := cell_below b6 v0
    replace v1 := cell_below b6 v1
    replace v2 := cell_below b6 v2
    replace v3 := cell_below b6 v3
    replace v4 := cell_below b6 v4
    replace v5 := cell_below b6 v5
    replace v6 := cell_below b6 v6
    have b7 := below_alloc (w := w6) (.cells #[.int .i64 x.kind, .string x.who, .string x.mo, .int .i64 x.yes, .int .i64 x.no, .int .i64 x.ab, .bool x.pa] 27)
    have u0 : (w6.alloc (.cells #[.int .i64 x.kind, .string x.who, .string x.mo, .int .i64 x.yes, .int .i64 x.no, .int .i64 x.ab, .bool x.pa] 27)).cell? ⟨w6.heap.size, 0, none⟩ = some (.int .i64 x.kind) := cell_of_row _ _ 0 _ _ _ (heap_new rfl)
    have u1 : (w6.alloc (.cells #[.int .i64 x.kind, .string x.who, .string x.mo, .int .i64 x.yes, .int .i64 x.no, .int .i64 x.ab, .bool x.pa] 27)).cell? ⟨w6.heap.size, 1, none⟩ = some (.string x.who) := cell_of_row _ _ 1 _ _ _ (heap_new rfl)
    have u2 : (w6.alloc (.cells #[.int .i64 x.kind, .string x.who, .string x.mo, .int .i64 x.yes, .int .i64 x.no, .int .i64 x.ab, .bool x.pa] 27)).cell? ⟨w6.heap.size, 2, none⟩ = some (.string x.mo) := cell_of_row _ _ 2 _ _ _ (heap_new rfl)
    have u3 : (w6.alloc (.cells #[.int .i64 x.kind, .string x.who, .string x.mo, .int .i64 x.yes, .int .i64 x.no, .int .i64 x.ab, .bool x.pa] 27)).cell? ⟨w6.heap.size, 3, none⟩ = some (.int .i64 x.yes) := cell_of_row _ _ 3 _ _ _ (heap_new rfl)
    have u4 : (w6.alloc (.cells #[.int .i64 x.kind, .string x.who, .string x.mo, .int .i64 x.yes, .int .i64 x.no, .int .i64 x.ab, .bool x.pa] 27)).cell? ⟨w6.heap.size, 4, none⟩ = some (.int .i64 x.no) := cell_of_row _ _ 4 _ _ _ (heap_new rfl)
    have u5 : (w6.alloc (.cells #[.int .i64 x.kind, .string x.who, .string x.mo, .int .i64 x.yes, .int .i64 x.no, .int .i64 x.ab, .bool x.pa] 27)).cell? ⟨w6.heap.size, 5, none⟩ = some (.int .i64 x.ab) := cell_of_row _ _ 5 _ _ _ (heap_new rfl)
    have u6 : (w6.alloc (.cells #[.int .i64 x.kind, .string x.who, .string x.mo, .int .i64 x.yes, .int .i64 x.no, .int .i64 x.ab, .bool x.pa] 27)).cell? ⟨w6.heap.size, 6, none⟩ = some (.bool x.pa) := cell_of_row _ _ 6 _ _ _ (heap_new rfl)
    have t7 := below_trans t6 b7
    replace v0 := cell_below b7 v0
    replace v1 := cell_below b7 v1
    replace v2 := cell_below b7 v2
    replace v3 := cell_below b7 v3
    replace v4 := cell_below b7 v4
    replace v5 := cell_below b7 v5
    replace v6 := cell_below b7 v6
    go_wp2_with fail
    generalize hgw7 : w6.alloc (.cells #[.int .i64 x.kind, .string x.who, .string x.mo, .int .i64 x.yes, .int .i64 x.no, .int .i64 x.ab, .bool x.pa] 27) = w7 at *
    clear hgw7
    refine (drawParseEntry_any _ _ _ l _ (ha.below t7) hb).mono ?_
    rintro e w8 ⟨⟨t, rfl, ht⟩, b8⟩
    have t8 := below_trans t7 b8
    replace v0 := cell_below b8 v0
    replace v1 := cell_below b8 v1
    replace v2 := cell_below b8 v2
    replace v3 := cell_below b8 v3
    replace v4 := cell_below b8 v4
    replace v5 := cell_below b8 v5
    replace v6 := cell_below b8 v6
    replace u0 := cell_below b8 u0
    replace u1 := cell_below b8 u1
    replace u2 := cell_below b8 u2
    replace u3 := cell_below b8 u3
    replace u4 := cell_below b8 u4
    replace u5 := cell_below b8 u5
    replace u6 := cell_below b8 u6
    clear v0 v1 v2 v3 v4 v5 v6 u0 u1 u2 u3 u4 u5 u6
    obtain ⟨p, pb, hp⟩ : ∃ p pb, parE t = (p, pb) := ⟨_, _, rfl⟩
    have HP := Lib.hid hp
    clear hp
    go_wp2_with fail
    refine (implPE_at HP.out mx ev _ (by omega) (cell_below t8 HM.out) (pow10_below HT.out t8) (cell_below t8 HE.out) HEV.out).mono ?_
    rintro e w9 ⟨rfl, b9⟩
    have t9 := below_trans t8 b9
    have b10 := below_alloc (w := w9) (.cells #[.int .i64 p.kind, .string p.who, .string p.mo, .int .i64 p.yes, .int .i64 p.no, .int .i64 p.ab, .bool p.pa] 27)
    have v0 : (w9.alloc (.cells #[.int .i64 p.kind, .string p.who, .string p.mo, .int .i64 p.yes, .int .i64 p.no, .int .i64 p.ab, .bool p.pa] 27)).cell? ⟨w9.heap.size, 0, none⟩ = some (.int .i64 p.kind) := cell_of_row _ _ 0 _ _ _ (heap_new rfl)
    have v1 : (w9.alloc (.cells #[.int .i64 p.kind, .string p.who, .string p.mo, .int .i64 p.yes, .int .i64 p.no, .int .i64 p.ab, .bool p.pa] 27)).cell? ⟨w9.heap.size, 1, none⟩ = some (.string p.who) := cell_of_row _ _ 1 _ _ _ (heap_new rfl)
    have v2 : (w9.alloc (.cells #[.int .i64 p.kind, .string p.who, .string p.mo, .int .i64 p.yes, .int .i64 p.no, .int .i64 p.ab, .bool p.pa] 27)).cell? ⟨w9.heap.size, 2, none⟩ = some (.string p.mo) := cell_of_row _ _ 2 _ _ _ (heap_new rfl)
    have v3 : (w9.alloc (.cells #[.int .i64 p.kind, .string p.who, .string p.mo, .int .i64 p.yes, .int .i64 p.no, .int .i64 p.ab, .bool p.pa] 27)).cell? ⟨w9.heap.size, 3, none⟩ = some (.int .i64 p.yes) := cell_of_row _ _ 3 _ _ _ (heap_new rfl)
    have v4 : (w9.alloc (.cells #[.int .i64 p.kind, .string p.who, .string p.mo, .int .i64 p.yes, .int .i64 p.no, .int .i64 p.ab, .bool p.pa] 27)).cell? ⟨w9.heap.size, 4, none⟩ = some (.int .i64 p.no) := cell_of_row _ _ 4 _ _ _ (heap_new rfl)
    have v5 : (w9.alloc (.cells #[.int .i64 p.kind, .string p.who, .string p.mo, .int .i64 p.yes, .int .i64 p.no, .int .i64 p.ab, .bool p.pa] 27)).cell? ⟨w9.heap.size, 5, none⟩ = some (.int .i64 p.ab) := cell_of_row _ _ 5 _ _ _ (heap_new rfl)
    have v6 : (w9.alloc (.cells #[.int .i64 p.kind, .string p.who, .string p.mo, .int .i64 p.yes, .int .i64 p.no, .int .i64 p.ab, .bool p.pa] 27)).cell? ⟨w9.heap.size, 6, none⟩ = some (.bool p.pa) := cell_of_row _ _ 6 _ _ _ (heap_new rfl)
    have t10 := below_trans t9 b10
    go_wp2_with fail
    generalize hgw10 : w9.alloc (.cells #[.int .i64 p.kind, .string p.who, .string p.mo, .int .i64 p.yes, .int .i64 p.no, .int .i64 p.ab, .bool p.pa] 27) = w10 at *
    clear hgw10
    refine (specPE_at HP.out _ (by omega)).mono ?_
    rintro e w11 ⟨rfl, b11⟩
    have t11 := below_trans t10 b11
    replace v0 := cell_below b11 v0
    replace v1 := cell_below b11 v1
    replace v2 := cell_below b11 v2
    replace v3 := cell_below b11 v3
    replace v4 := cell_below b11 v4
    replace v5 := cell_below b11 v5
    replace v6 := cell_below b11 v6
    have b12 := below_alloc (w := w11) (.cells #[.int .i64 p.kind, .string p.who, .string p.mo, .int .i64 p.yes, .int .i64 p.no, .int .i64 p.ab, .bool p.pa] 27)
    have u0 : (w11.alloc (.cells #[.int .i64 p.kind, .string p.who, .string p.mo, .int .i64 p.yes, .int .i64 p.no, .int .i64 p.ab, .bool p.pa] 27)).cell? ⟨w11.heap.size, 0, none⟩ = some (.int .i64 p.kind) := cell_of_row _ _ 0 _ _ _ (heap_new rfl)
    have u1 : (w11.alloc (.cells #[.int .i64 p.kind, .string p.who, .string p.mo, .int .i64 p.yes, .int .i64 p.no, .int .i64 p.ab, .bool p.pa] 27)).cell? ⟨w11.heap.size, 1, none⟩ = some (.string p.who) := cell_of_row _ _ 1 _ _ _ (heap_new rfl)
    have u2 : (w11.alloc (.cells #[.int .i64 p.kind, .string p.who, .string p.mo, .int .i64 p.yes, .int .i64 p.no, .int .i64 p.ab, .bool p.pa] 27)).cell? ⟨w11.heap.size, 2, none⟩ = some (.string p.mo) := cell_of_row _ _ 2 _ _ _ (heap_new rfl)
    have u3 : (w11.alloc (.cells #[.int .i64 p.kind, .string p.who, .string p.mo, .int .i64 p.yes, .int .i64 p.no, .int .i64 p.ab, .bool p.pa] 27)).cell? ⟨w11.heap.size, 3, none⟩ = some (.int .i64 p.yes) := cell_of_row _ _ 3 _ _ _ (heap_new rfl)
    have u4 : (w11.alloc (.cells #[.int .i64 p.kind, .string p.who, .string p.mo, .int .i64 p.yes, .int .i64 p.no, .int .i64 p.ab, .bool p.pa] 27)).cell? ⟨w11.heap.size, 4, none⟩ = some (.int .i64 p.no) := cell_of_row _ _ 4 _ _ _ (heap_new rfl)
    have u5 : (w11.alloc (.cells #[.int .i64 p.kind, .string p.who, .string p.mo, .int .i64 p.yes, .int .i64 p.no, .int .i64 p.ab, .bool p.pa] 27)).cell? ⟨w11.heap.size, 5, none⟩ = some (.int .i64 p.ab) := cell_of_row _ _ 5 _ _ _ (heap_new rfl)
    have u6 : (w11.alloc (.cells #[.int .i64 p.kind, .string p.who, .string p.mo, .int .i64 p.yes, .int .i64 p.no, .int .i64 p.ab, .bool p.pa] 27)).cell? ⟨w11.heap.size, 6, none⟩ = some (.bool p.pa) := cell_of_row _ _ 6 _ _ _ (heap_new rfl)
    have t12 := below_trans t11 b12
    replace v0 := cell_below b12 v0
    replace v1 := cell_below b12 v1
    replace v2 := cell_below b12 v2
    replace v3 := cell_below b12 v3
    replace v4 := cell_below b12 v4
    replace v5 := cell_below b12 v5
    replace v6 := cell_below b12 v6
    go_wp2_with fail
    generalize hgw12 : w11.alloc (.cells #[.int .i64 p.kind, .string p.who, .string p.mo, .int .i64 p.yes, .int .i64 p.no, .int .i64 p.ab, .bool p.pa] 27) = w12 at *
    clear hgw12
    refine (drawMinutes_any _ _ _ l _ (ha.below t12) hb).mono ?_
    rintro e w13 ⟨⟨A1, q1, c1, lp, rfl, hq1, ⟨o1, hgs1⟩⟩, b13⟩
    have t13 := below_trans t12 b13
    replace v0 := cell_below b13 v0
    replace v1 := cell_below b13 v1
    replace v2 := cell_below b13 v2
    replace v3 := cell_below b13 v3
    replace v4 := cell_below b13 v4
    replace v5 := cell_below b13 v5
    replace v6 := cell_below b13 v6
    replace u0 := cell_below b13 u0
    replace u1 := cell_below b13 u1
    replace u2 := cell_below b13 u2
    replace u3 := cell_below b13 u3
    replace u4 := cell_below b13 u4
    replace u5 := cell_below b13 u5
    replace u6 := cell_below b13 u6
    have o1_b := o1
    clear v0 v1 v2 v3 v4 v5 v6 u0 u1 u2 u3 u4 u5 u6
    have hsz : ∀ x ∈ lp, EnSz x := fun x hx => ens_sz (hgs1 x hx)
    go_wp2_with fail
    refine (implMinutesText_any _ _ _ _ _ (pow10_below HT.out t13) (o1.rd enV_len) hsz).mono ?_
    rintro e w14 ⟨rfl, b14⟩
    have t14 := below_trans t13 b14
    have o1 := o1.below b14
    go_wp2_with fail
    refine (specMinutesText_any _ _ _ _ _ (o1.rd enV_len) hsz).mono ?_
    rintro e w15 ⟨rfl, b15⟩
    have t15 := below_trans t14 b15
    have o1 := o1.below b15
    have hm17 := menL_1700 lp
    cases hto : minB lp
    · have HM17 := Lib.hid hm17
      generalize menL lp = s at *
      clear hto
      have hm17 := HM17.out
      go_wp2_with fail
      refine (implParseMinutes_any _ mx ev _ (by omega) (cell_below t15 HM.out) (pow10_below HT.out t15) (cell_below t15 HE.out) HEV.out).mono ?_
      rintro e w16 ⟨⟨A2, q2, c2, rfl, o2⟩, b16⟩
      have t16 := below_trans t15 b16
      have o1 := o1.below b16
      have o2_b := o2
      go_wp2_with fail
      refine (drawParseMinutes_any _ _ _ l _ (ha.below t16) hb).mono ?_
      rintro e w17 ⟨⟨u, rfl, hu⟩, b17⟩
      have t17 := below_trans t16 b17
      have o1 := o1.below b17
      have o2 := o2.below b17
      go_wp2_with fail
      refine (implParseMinutes_any u mx ev _ (by omega) (cell_below t17 HM.out) (pow10_below HT.out t17) (cell_below t17 HE.out) HEV.out).mono ?_
      rintro e w18 ⟨⟨A3, q3, c3, rfl, o3⟩, b18⟩
      have t18 := below_trans t17 b18
      have o1 := o1.below b18
      have o2 := o2.below b18
      have o3_b := o3
      go_wp2_with fail
      refine (specParseMinutes_any u _ (by omega)).mono ?_
      rintro e w19 ⟨⟨A4, q4, c4, rfl, o4⟩, b19⟩
      have t19 := below_trans t18 b19
      have o1 := o1.below b19
      have o2 := o2.below b19
      have o3 := o3.below b19
      have o4_b := o4
      go_wp2_with fail
      refine (rEntries_same _ _ _ _ _ _ _ _ (o3.rd enV_len) (o4.rd enV_len)).mono ?_
      rintro e w20 ⟨rfl, b20⟩
      have t20 := below_trans t19 b20
      have o1 := o1.below b20
      have o2 := o2.below b20
      have o3 := o3.below b20
      have o4 := o4.below b20
      go_wp2
      go_ret
      exact ⟨rfl, t20⟩
    · have HH : Hid (parM (menL lp) = (lp, true)) := menL_hit hto
      have HM17 := Lib.hid hm17
      generalize menL lp = s at *
      clear hto
      have hm17 := HM17.out
      go_wp2_with fail
      refine (implParseMinutes_any _ mx ev _ (by omega) (cell_below t15 HM.out) (pow10_below HT.out t15) (cell_below t15 HE.out) HEV.out).mono ?_
      rintro e w16 ⟨⟨A2, q2, c2, rfl, o2⟩, b16⟩
      have t16 := below_trans t15 b16
      have o1 := o1.below b16
      have o2_b := o2
      have hqb : Own enV 7 w16 _ _ _ _ _ lp := (by have h9 := o2; rw [HH.out] at h9; exact h9)
      rw [HH.out]
      replace o2 := hqb
      replace o2_b := hqb
      clear hqb
      go_wp2_with fail
      refine (rEntries_same _ _ _ _ _ _ lp _ (o2.rd enV_len) (o1.rd enV_len)).mono ?_
      rintro e w17 ⟨rfl, b17⟩
      have t17 := below_trans t16 b17
      have o1 := o1.below b17
      have o2 := o2.below b17
      go_wp2_with fail
      refine (drawParseMinutes_any _ _ _ l _ (ha.below t17) hb).mono ?_
      rintro e w18 ⟨⟨u, rfl, hu⟩, b18⟩
      have t18 := below_trans t17 b18
      have o1 := o1.below b18
      have o2 := o2.below b18
      go_wp2_with fail
      refine (implParseMinutes_any u mx ev _ (by omega) (cell_below t18 HM.out) (pow10_below HT.out t18) (cell_below t18 HE.out) HEV.out).mono ?_
      rintro e w19 ⟨⟨A3, q3, c3, rfl, o3⟩, b19⟩
      have t19 := below_trans t18 b19
      have o1 := o1.below b19
      have o2 := o2.below b19
      have o3_b := o3
      go_wp2_with fail
      refine (specParseMinutes_any u _ (by omega)).mono ?_
      rintro e w20 ⟨⟨A4, q4, c4, rfl, o4⟩, b20⟩
      have t20 := below_trans t19 b20
      have o1 := o1.below b20
      have o2 := o2.below b20
      have o3 := o3.below b20
      have o4_b := o4
      go_wp2_with fail
      refine (rEntries_same _ _ _ _ _ _ _ _ (o3.rd enV_len) (o4.rd enV_len)).mono ?_
      rintro e w21 ⟨rfl, b21⟩
      have t21 := below_trans t20 b21
      have o1 := o1.below b21
      have o2 := o2.below b21
      have o3 := o3.below b21
      have o4 := o4.below b21
      go_wp2
      go_ret
      exact ⟨rfl, t21⟩

set_option maxRecDepth 100000 in
theorem door_met (os : Os) (args : Array Value) : laidMetH Tryz.prog Rows.fnMinutesRow.laid ((World.laidAll Tryz.prog os Rows.fnMinutesRow.laid).forCall (fun _ _ => 0) ⟨#[], args, []⟩).memory :=
  by rw [MakeChecks.laidMetH_plain _ _ _ (by kernel_rfl)]; exact laidMet_laidAll _ (by kernel_rfl) (by kernel_rfl)

set_option maxRecDepth 100000 in
theorem lifted (os : Os) (started : os.Started) (H : Type) (enc : TypeId × Value → H) :
    ReturnsInHanded {} Tryz.checked os 3 .any (fun w args => (Rows.fnMinutesSpec.pre enc Tryz.prog Tryz.f3 [] false w args ∧ laidMetH Tryz.prog Rows.fnMinutesRow.laid w) ∧ sizedMet enc Tryz.prog Tryz.f3 (OpenSpec.ofChange Rows.fnMinutesSpec) false w args)
      (Rows.fnMinutesSpec.post enc Tryz.prog Tryz.f3 false true false false) := by
  refine handed_and_shaped (C := Tryz.checked) (X := fun w _ => laidMetH Tryz.prog Rows.fnMinutesRow.laid w) (fun _ _ _ hh h => h.of_heap hh) own started (by kernel_rfl) Tryz.func3
    (ChangeSpec.witness_shaped (enc := enc) (C := Tryz.checked) (os := os) (X := fun w _ => laidMetH Tryz.prog Rows.fnMinutesRow.laid w) false (World.laidAll Tryz.prog os Rows.fnMinutesRow.laid) #[.slice none 0 0] 8 (World.laidAll_os _ _ _) (World.shaped_of_ZipB (by kernel_rfl) (by kernel_rfl)) (by kernel_rfl) (by kernel_rfl) (by kernel_rfl) (door_met os _)) ?_
  intro W base args ds gs before hval0 hW hL hsh
  have hval : ∀ (j : Nat) t v, Tryz.f3.params[j]? = some t → args[j]? = some v → Value.okWide Tryz.prog W .any base t v := hval0
  have hW' := hW
  obtain ⟨p, q, hA0, hV, rfl, hfz, hnd⟩ := hW
  have hA : DataW.TrodAll enc Tryz.prog W 0 (fun _ => true) true Tryz.f3.params.toList args.toList ds p := hA0
  rw [Tryz.params3] at hA hval
  obtain ⟨v0, vs0, d0, ds0, p0, q0, hargs, rfl, rfl, h0, r0⟩ := trodAll_cons hA
  obtain ⟨rfl, rfl, rfl⟩ := trodAll_nil r0
  obtain rfl : args = #[v0] := by cases args; simp_all
  obtain ⟨rfl, rfl⟩ := trodVars_none hV
  obtain ⟨A0, n0, c0, l0, rfl, R0, G0⟩ := open_rd (ec := byV) Tryz.underlying22 (by kernel_rfl) (read_bytes) (by omega) byV_len (hval 0 22 v0 rfl rfl) h0
  obtain ⟨mx, hM⟩ := Tryz.laysM143.s1_3 W (show W.ShapedOpen Tryz.prog from hsh)
  have hT := pow10_of (by kernel_rfl) hL (List.Mem.tail _ (List.Mem.tail _ (List.Mem.head _)))
  obtain ⟨ev, hE, hev⟩ := errSyntax_of (by kernel_rfl) hL (List.Mem.tail _ (List.Mem.tail _ (List.Mem.tail _ (List.Mem.tail _ (List.Mem.tail _ (List.Mem.head _))))))
  refine (walk A0 n0 c0 l0 mx W hT ev hE hev R0 G0 hM).mono fun e W' ⟨he, hb⟩ => ?_
  subst he
  exact ⟨_, rfl, law_post laidOut (by kernel_rfl) (by kernel_rfl) Tryz.underlying4 rfl hW' rfl rfl rfl hb⟩

theorem over : Rows.fnMinutesRow.holds Tryz.pinned (OpenSpec.ofChange Rows.fnMinutesSpec) :=
  OpenClaim.holds_of_wide 3 Tryz.f3 rfl rfl rfl rfl rfl rfl rfl ⟨rfl, rfl, rfl, rfl, rfl⟩ rfl rfl rfl rfl rfl (by kernel_rfl) Tryz.func3 (by kernel_rfl)
    (of_decide_eq_true (by kernel_rfl)) (by unfold Func.isWrapper; rw [if_neg (of_decide_eq_false (by kernel_rfl))]; exact ⟨rfl, rfl⟩)
    (fun os started H enc _ => lifted os started H enc)

theorem proved : Rows.FnMinutesCardSaid :=
  Claim7.holds_tied_plain_at .later [] [.data, .data, .data, .data, .sentinel, .sentinel, .pinned] true (true, "fb44d323a7bd89cc062066737506edfd31b28dc5905a6a54bfa01f680246a66b") true
    over (fun _ h => by cases h) (by kernel_rfl) (fun _ h => by cases h) fnMinutes_row_tie rfl ⟨rfl, rfl⟩ (by kernel_rfl) rfl
    (fun f fn hf hfn => by
      obtain rfl : f = 3 := Option.some.inj ((show Tryz.prog.funcNamed "loop.example/g00909/laws.FnMinutes" = some 3 by kernel_rfl).symm.trans hf) |>.symm
      obtain rfl : fn = Tryz.f3 := (Option.some.inj (Tryz.func3.symm.trans hfn)).symm
      exact ⟨by kernel_rfl, fun j t ht => by
        have hall : (Tryz.f3.params.toList.all fun u => !Tryz.prog.wantsStandIn u) = true := by kernel_rfl
        have hm : t ∈ Tryz.f3.params.toList := Array.mem_toList_iff.2 (Array.mem_of_getElem? ht)
        exact (show Tryz.prog.wantsStandIn t = false by simpa using List.all_eq_true.1 hall t hm)⟩)
    (by kernel_rfl)
#print axioms proved
end Go.Proofs.YthphjncgbaknnaaGreatDoor.fnMinutes
