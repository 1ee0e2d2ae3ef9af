/- FnExactDoCommute: for every list of lines and every two corrections the program's DoCommute and the reference's return the same, the arguments are left as they were, and the result's memory is shared with nothing. No condition.
-/
import Derived.Test.YtdipeigcgmnhjaaRead
import Derived.Test.YtdipeigcgmnhjaaCorG
import Derived.Deep.RegionWith
import Derived.Deep.DeepCutAuto
import Derived.HandedShaped
namespace Go.Proofs.Ytdipeigcgmnhjaa.fnExactDoCommute
open Go Go.ChangeShapes Go.WideShapes Go.ChangeAt Go.RowKit Go.Sort
open Go.ChangeMaps (open_string)
set_option linter.unusedVariables false

theorem own : ownKnob Try.prog.godebug = none := by kernel_rfl
theorem laidOut : laidOutB Try.prog = true := by kernel_rfl

set_option maxRecDepth 100000 in
set_option maxHeartbeats 4000000 in
theorem walk (Al : Option Addr) (nl cl : Nat) (l : List ByteArray) (x : CO) (y : CO) (mx : Int) (w : World) (hal : Rd stV 1 w Al nl cl l) (hgl : ∀ s ∈ l, s.size ≤ maxLen) (gx : coGood x) (gy : coGood y) (hM : w.cell? ⟨0, 0, none⟩ = some (.int .i64 mx)) :
    Calls Try.prog 7 #[.slice Al nl cl, .agg (coV x).toArray, .agg (coV y).toArray] w fun e w' => e = .returned (.bool true) ∧ Below w.heap.size w w' := by
  show Calls _ _ #[_, .agg #[.int .i64 x.line, .string x.old, .string x.new], .agg #[.int .i64 y.line, .string y.old, .string y.new]] _ _
  obtain ⟨v1, hv1⟩ : ∃ ww : World, ww = w.alloc (.cells #[.int .i64 x.line, .string x.old, .string x.new] 33) := ⟨_, rfl⟩
  have ss1 : v1.heap.size = w.heap.size + 1 := by rw [hv1]; simp
  have ba0 : Below w.heap.size w v1 := by rw [hv1]; exact below_alloc _
  have bb0 : Below w.heap.size w v1 := ba0
  have hb0 : v1.heap[w.heap.size]? = some (.cells #[.int .i64 x.line, .string x.old, .string x.new] 33) := by rw [hv1]; exact heap_new rfl
  have qq := fun i => cell_of_row v1 (w.heap.size) i _ _ _ hb0
  have qx0 : v1.cell? ⟨w.heap.size, 0, none⟩ = some (.int .i64 x.line) := qq 0
  have qx1 : v1.cell? ⟨w.heap.size, 1, none⟩ = some (.string x.old) := qq 1
  have qx2 : v1.cell? ⟨w.heap.size, 2, none⟩ = some (.string x.new) := qq 2
  clear qq hb0
  obtain ⟨w0, hw0⟩ : ∃ ww : World, ww = v1.alloc (.cells #[.int .i64 y.line, .string y.old, .string y.new] 33) := ⟨_, rfl⟩
  have ss2 : w0.heap.size = w.heap.size + 1 + 1 := by rw [hw0]; simp [ss1]
  have ba1 : Below v1.heap.size v1 w0 := by rw [hw0]; exact below_alloc _
  have bb1 : Below w.heap.size w w0 := below_trans bb0 ba1
  replace qx0 := cell_below ba1 qx0
  replace qx1 := cell_below ba1 qx1
  replace qx2 := cell_below ba1 qx2
  have hb1 : w0.heap[w.heap.size + 1]? = some (.cells #[.int .i64 y.line, .string y.old, .string y.new] 33) := by rw [hw0]; exact heap_new ss1.symm
  have qq := fun i => cell_of_row w0 (w.heap.size + 1) i _ _ _ hb1
  have qy0 : w0.cell? ⟨w.heap.size + 1, 0, none⟩ = some (.int .i64 y.line) := qq 0
  have qy1 : w0.cell? ⟨w.heap.size + 1, 1, none⟩ = some (.string y.old) := qq 1
  have qy2 : w0.cell? ⟨w.heap.size + 1, 2, none⟩ = some (.string y.new) := qq 2
  clear qq hb1
  rw [hv1] at hw0
  have b0 := bb1
  clear ss1 ba0 bb0 ss2 ba1 bb1 hv1
  replace hM := cell_below b0 hM
  go_enter Try.func7, Try.ntmps7
  go_wp2_with fail
  rw [← hw0]
  clear hw0
  have hltx := lt_of_cell qx0
  have hlty := lt_of_cell qy0
  have hltM := lt_of_cell hM
  refine (szStringS_any _ _ _ _ _ _ (hal.below b0) (by omega) (by omega) hgl).mono ?_
  rintro e w1 ⟨⟨r1, rfl, hr⟩, b1⟩
  have t1 := below_trans b0 b1
  replace qx0 := cell_below b1 qx0
  replace qx1 := cell_below b1 qx1
  replace qx2 := cell_below b1 qx2
  replace qy0 := cell_below b1 qy0
  replace qy1 := cell_below b1 qy1
  replace qy2 := cell_below b1 qy2
  replace hM := cell_below b1 hM
  rcases hr with rfl | hr
  · go_wp2
    go_ret
    exact ⟨rfl, t1⟩
  obtain ⟨hr1a, hr1b, hln, hstl⟩ := hr
  have hnl : nl ≤ 1048576 := by have := hal.len; omega
  clear hln
  have hzl : ∀ s ∈ l, s.size ≤ 1048576 := fun s hs => by have := hstl s hs; omega
  go_wp2_with fail
  refine (szCorrection_any _ _ _ _ _ (by omega) (by omega) (gx.2.1) (gx.2.2)).mono ?_
  rintro e w2 ⟨⟨r2, rfl, hr⟩, b2⟩
  have t2 := below_trans t1 b2
  replace qx0 := cell_below b2 qx0
  replace qx1 := cell_below b2 qx1
  replace qx2 := cell_below b2 qx2
  replace qy0 := cell_below b2 qy0
  replace qy1 := cell_below b2 qy1
  replace qy2 := cell_below b2 qy2
  replace hM := cell_below b2 hM
  rcases hr with rfl | hr
  · go_wp2
    go_ret
    exact ⟨rfl, t2⟩
  obtain ⟨hr2a, hr2b, hsx0, hsx1⟩ := hr
  simp only at hsx0 hsx1
  have hzx0 : x.old.size ≤ 1048576 := by omega
  have hzx1 : x.new.size ≤ 1048576 := by omega
  go_wp2_with fail
  refine (szCorrection_any _ _ _ _ _ (by omega) (by omega) (gy.2.1) (gy.2.2)).mono ?_
  rintro e w3 ⟨⟨r3, rfl, hr⟩, b3⟩
  have t3 := below_trans t2 b3
  replace qx0 := cell_below b3 qx0
  replace qx1 := cell_below b3 qx1
  replace qx2 := cell_below b3 qx2
  replace qy0 := cell_below b3 qy0
  replace qy1 := cell_below b3 qy1
  replace qy2 := cell_below b3 qy2
  replace hM := cell_below b3 hM
  rcases hr with rfl | hr
  · go_wp2
    go_ret
    exact ⟨rfl, t3⟩
  obtain ⟨hr3a, hr3b, hsy0, hsy1⟩ := hr
  simp only at hsy0 hsy1
  have hzy0 : y.old.size ≤ 1048576 := by omega
  have hzy1 : y.new.size ≤ 1048576 := by omega
  go_upto_region 11 with fail
  go_cut [8, 9] (fun s8 s9 wy => (s8 = .bool (comB l x y) ∧ s9 = .bool (comG l x y)) ∧ Below w3.heap.size w3 wy)
  case first =>
    go_region_with (first
      | (go_at_call 13; refine (toStringS_any _ _ _ _ _ (((hal.below t3)).drew) hnl).mono ?_; rintro e wrg0 ⟨Arg0, crg0, rfl, org0, brg0⟩; have qx0_r0 := cell_below brg0 (show (World.drew _).cell? _ = _ from qx0); have qx1_r0 := cell_below brg0 (show (World.drew _).cell? _ = _ from qx1); have qx2_r0 := cell_below brg0 (show (World.drew _).cell? _ = _ from qx2); have qy0_r0 := cell_below brg0 (show (World.drew _).cell? _ = _ from qy0); have qy1_r0 := cell_below brg0 (show (World.drew _).cell? _ = _ from qy1); have qy2_r0 := cell_below brg0 (show (World.drew _).cell? _ = _ from qy2); have hM_r0 := cell_below brg0 (show (World.drew _).cell? _ = _ from hM); have bcum0 : Below _ _ _ := brg0)
      | (go_at_call 21; refine (toCorrection_any _ _ _ _).mono ?_; rintro e wrg1 ⟨rfl, brg1⟩; have qx0_r1 := cell_below brg1 qx0_r0; have qx1_r1 := cell_below brg1 qx1_r0; have qx2_r1 := cell_below brg1 qx2_r0; have qy0_r1 := cell_below brg1 qy0_r0; have qy1_r1 := cell_below brg1 qy1_r0; have qy2_r1 := cell_below brg1 qy2_r0; have hM_r1 := cell_below brg1 hM_r0; have bcum1 := below_trans bcum0 brg1)
      | (go_at_call 21; refine (toCorrection_any _ _ _ _).mono ?_; rintro e wrg2 ⟨rfl, brg2⟩; have qx0_r2 := cell_below brg2 qx0_r1; have qx1_r2 := cell_below brg2 qx1_r1; have qx2_r2 := cell_below brg2 qx2_r1; have qy0_r2 := cell_below brg2 qy0_r1; have qy1_r2 := cell_below brg2 qy1_r1; have qy2_r2 := cell_below brg2 qy2_r1; have hM_r2 := cell_below brg2 hM_r1; have bcum2 := below_trans bcum1 brg2)
      | (go_at_call 27; refine (specDoCommute_any _ _ _ _ x y _ (((org0.below brg1).below brg2).rd stV_len) hnl hzl ⟨hzx0, hzx1⟩ ⟨hzy0, hzy1⟩).mono ?_; rintro e wz ⟨rfl, bz⟩))
    all_goals (go_wp2_with fail; go_meet; exact ⟨⟨rfl, rfl⟩, below_trans (show Below w3.heap.size w3 _ from ⟨bcum2.os, bcum2.tape, bcum2.output, bcum2.size, bcum2.block⟩) bz⟩)
  case rest =>
  obtain ⟨w4, rfl⟩ : ∃ x : World, x = wc := ⟨_, rfl⟩
  obtain ⟨⟨rfl, rfl⟩, b4⟩ := hcut
  have t4 := below_trans t3 b4
  replace qx0 := cell_below b4 qx0
  replace qx1 := cell_below b4 qx1
  replace qx2 := cell_below b4 qx2
  replace qy0 := cell_below b4 qy0
  replace qy1 := cell_below b4 qy1
  replace qy2 := cell_below b4 qy2
  replace hM := cell_below b4 hM
  go_wp2_with fail
  refine (toStringS_any _ _ _ _ _ (hal.below t4) hnl).mono ?_
  rintro e w5 ⟨A1, c1, rfl, o1, b5⟩
  have t5 := below_trans t4 b5
  replace qx0 := cell_below b5 qx0
  replace qx1 := cell_below b5 qx1
  replace qx2 := cell_below b5 qx2
  replace qy0 := cell_below b5 qy0
  replace qy1 := cell_below b5 qy1
  replace qy2 := cell_below b5 qy2
  replace hM := cell_below b5 hM
  have o1_b := o1
  go_upto_region 13 with fail
  go_cut [11, 12] (fun s11 s12 wy => (s11 = .bool (comB l x y) ∧ s12 = .bool (comG l x y)) ∧ Below w5.heap.size w5 wy)
  case first =>
    go_region_with (first
      | (go_at_call 21; refine (toCorrection_any _ _ _ _).mono ?_; rintro e wrg0 ⟨rfl, brg0⟩; have qx0_r0 := cell_below brg0 (show (World.drew _).cell? _ = _ from qx0); have qx1_r0 := cell_below brg0 (show (World.drew _).cell? _ = _ from qx1); have qx2_r0 := cell_below brg0 (show (World.drew _).cell? _ = _ from qx2); have qy0_r0 := cell_below brg0 (show (World.drew _).cell? _ = _ from qy0); have qy1_r0 := cell_below brg0 (show (World.drew _).cell? _ = _ from qy1); have qy2_r0 := cell_below brg0 (show (World.drew _).cell? _ = _ from qy2); have hM_r0 := cell_below brg0 (show (World.drew _).cell? _ = _ from hM); have bcum0 : Below _ _ _ := brg0)
      | (go_at_call 21; refine (toCorrection_any _ _ _ _).mono ?_; rintro e wrg1 ⟨rfl, brg1⟩; have qx0_r1 := cell_below brg1 qx0_r0; have qx1_r1 := cell_below brg1 qx1_r0; have qx2_r1 := cell_below brg1 qx2_r0; have qy0_r1 := cell_below brg1 qy0_r0; have qy1_r1 := cell_below brg1 qy1_r0; have qy2_r1 := cell_below brg1 qy2_r0; have hM_r1 := cell_below brg1 hM_r0; have bcum1 := below_trans bcum0 brg1)
      | (go_at_call 28; refine (implDoCommute_any _ _ _ _ x y mx _ (((o1.rd stV_len).drew.below bcum1)) hnl hzl ⟨hzx0, hzx1⟩ ⟨hzy0, hzy1⟩ hM_r1).mono ?_; rintro e wz ⟨rfl, bz⟩))
    all_goals (go_wp2_with fail; go_meet; exact ⟨⟨rfl, rfl⟩, below_trans (show Below w5.heap.size w5 _ from ⟨bcum1.os, bcum1.tape, bcum1.output, bcum1.size, bcum1.block⟩) bz⟩)
  case rest =>
  obtain ⟨w6, rfl⟩ : ∃ x : World, x = wc := ⟨_, rfl⟩
  obtain ⟨⟨rfl, rfl⟩, b6⟩ := hcut
  have t6 := below_trans t5 b6
  have o1 := o1.below b6
  replace qx0 := cell_below b6 qx0
  replace qx1 := cell_below b6 qx1
  replace qx2 := cell_below b6 qx2
  replace qy0 := cell_below b6 qy0
  replace qy1 := cell_below b6 qy1
  replace qy2 := cell_below b6 qy2
  replace hM := cell_below b6 hM
  go_wp2_with fail
  refine (toStringS_any _ _ _ _ _ (hal.below t6) hnl).mono ?_
  rintro e w7 ⟨A2, c2, rfl, o2, b7⟩
  have t7 := below_trans t6 b7
  have o1 := o1.below b7
  replace qx0 := cell_below b7 qx0
  replace qx1 := cell_below b7 qx1
  replace qx2 := cell_below b7 qx2
  replace qy0 := cell_below b7 qy0
  replace qy1 := cell_below b7 qy1
  replace qy2 := cell_below b7 qy2
  replace hM := cell_below b7 hM
  have o2_b := o2
  go_wp2_with fail
  refine (eqStringS_same _ _ _ _ _ _ _ _ (o1.rd stV_len) (o2.rd stV_len)).mono ?_
  rintro e w8 ⟨rfl, b8⟩
  have t8 := below_trans t7 b8
  have o1 := o1.below b8
  have o2 := o2.below b8
  replace qx0 := cell_below b8 qx0
  replace qx1 := cell_below b8 qx1
  replace qx2 := cell_below b8 qx2
  replace qy0 := cell_below b8 qy0
  replace qy1 := cell_below b8 qy1
  replace qy2 := cell_below b8 qy2
  replace hM := cell_below b8 hM
  go_wp2
  go_ret
  exact ⟨rfl, t8⟩

set_option maxRecDepth 100000 in
theorem lifted (os : Os) (started : os.Started) (H : Type) (enc : TypeId × Value → H) :
    ReturnsInHanded {} Try.checked os 7 .any (Rows.fnExactDoCommuteSpec.pre6 enc Try.prog Try.f7 Rows.fnExactDoCommuteRow.domain false) (Rows.fnExactDoCommuteSpec.post enc Try.prog Try.f7 false true false false) := by
  refine returnsInHanded_of_change_shaped (C := Try.checked) own started (by kernel_rfl) Try.func7
    (ChangeSpec.witness6 (enc := enc) (C := Try.checked) false ⟨#[], #[.slice none 0 0, .agg #[.int .i64 0, .string ByteArray.empty, .string ByteArray.empty], .agg #[.int .i64 0, .string ByteArray.empty, .string ByteArray.empty]], []⟩ 8 (by kernel_rfl) (by kernel_rfl) (by kernel_rfl) (by kernel_rfl)) ?_
  intro W base args ds gs before hval0 hW hcnd _ hsh _
  have hval : ∀ (j : Nat) t v, Try.f7.params[j]? = some t → args[j]? = some v → Value.okWide Try.prog W .any base t v := hval0
  have hW' := hW
  obtain ⟨p, q, hA0, hV, rfl, hfz, hnd⟩ := hW
  have hA : DataW.TrodAll enc Try.prog W 0 (fun _ => true) true Try.f7.params.toList args.toList ds p := hA0
  rw [Try.params7] at hA hval
  obtain ⟨v0, vs0, d0, ds0, p0, q0, hargs, rfl, rfl, h0, r0⟩ := trodAll_cons hA
  obtain ⟨v1, vs1, d1, ds1, p1, q1, rfl, rfl, rfl, h1, r1⟩ := trodAll_cons r0
  obtain ⟨v2, vs2, d2, ds2, p2, q2, rfl, rfl, rfl, h2, r2⟩ := trodAll_cons r1
  obtain ⟨rfl, rfl, rfl⟩ := trodAll_nil r2
  obtain rfl : args = #[v0, v1, v2] := by cases args; simp_all
  obtain ⟨rfl, rfl⟩ := trodVars_none hV
  obtain ⟨A0, n0, c0, l0, rfl, R0, G0⟩ := open_rd (ec := stV) Try.underlying22 (by kernel_rfl) (read_strs) (by omega) stV_len (hval 0 22 v0 rfl rfl) h0
  obtain ⟨x1, rfl, g1⟩ := open_val (ec := coV) Try.underlying33 read_co (hval 1 33 v1 rfl rfl) h1
  obtain ⟨x2, rfl, g2⟩ := open_val (ec := coV) Try.underlying33 read_co (hval 2 33 v2 rfl rfl) h2
  obtain ⟨mx, hM⟩ := Try.laysM143.s1_3 W (show W.ShapedOpen Try.prog from hsh)
  refine (walk A0 n0 c0 l0 x1 x2 mx W R0 G0 g1 g2 hM).mono fun e W' ⟨he, hb⟩ => ?_
  subst he
  exact ⟨_, rfl, law_post laidOut (by kernel_rfl) (by kernel_rfl) Try.underlying4 rfl hW' rfl rfl rfl hb⟩

theorem over : Rows.fnExactDoCommuteRow.holds Try.pinned (OpenSpec.ofChange Rows.fnExactDoCommuteSpec) :=
  OpenClaim.holds_of_wide 7 Try.f7 rfl rfl rfl rfl rfl rfl rfl ⟨rfl, rfl, rfl, rfl, rfl⟩ rfl rfl rfl rfl rfl (by kernel_rfl) Try.func7 (by kernel_rfl)
    (of_decide_eq_true (by kernel_rfl)) (by unfold Func.isWrapper; rw [if_neg (of_decide_eq_false (by kernel_rfl))]; exact ⟨rfl, rfl⟩)
    (fun os started H enc _ => lifted os started H enc)

theorem proved : Rows.FnExactDoCommuteSaid :=
  over
#print axioms proved
end Go.Proofs.Ytdipeigcgmnhjaa.fnExactDoCommute
