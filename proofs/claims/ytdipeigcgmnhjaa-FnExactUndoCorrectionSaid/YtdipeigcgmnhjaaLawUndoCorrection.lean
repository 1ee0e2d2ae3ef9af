/- FnExactUndoCorrection: for every list of lines and every correction the program's UndoCorrection and the reference's return the same, the arguments are left as they were, and the result's memory is shared with nothing. No condition.
-/
import Derived.Test.YtdipeigcgmnhjaaRead
import Derived.Test.YtdipeigcgmnhjaaCorH
import Derived.Deep.RegionWith
import Derived.Deep.DeepCutAuto
import Derived.HandedShaped
namespace Go.Proofs.Ytdipeigcgmnhjaa.fnExactUndoCorrection
open Go Go.ChangeShapes Go.WideShapes Go.ChangeAt Go.RowKit Go.Sort
open Go.ChangeMaps (open_string)
set_option linter.unusedVariables false

theorem own : ownKnob Try.prog.godebug = none := by kernel_rfl
theorem laidOut : laidOutB Try.prog = true := by kernel_rfl

set_option maxRecDepth 100000 in
set_option maxHeartbeats 4000000 in
theorem walk (Al : Option Addr) (nl cl : Nat) (l : List ByteArray) (x : CO) (mx : Int) (w : World) (hal : Rd stV 1 w Al nl cl l) (hgl : ∀ s ∈ l, s.size ≤ maxLen) (gx : coGood x) (hM : w.cell? ⟨0, 0, none⟩ = some (.int .i64 mx)) :
    Calls Try.prog 6 #[.slice Al nl cl, .agg (coV x).toArray] w fun e w' => e = .returned (.bool true) ∧ Below w.heap.size w w' := by
  show Calls _ _ #[_, .agg #[.int .i64 x.line, .string x.old, .string x.new]] _ _
  obtain ⟨w0, hw0⟩ : ∃ ww : World, ww = w.alloc (.cells #[.int .i64 x.line, .string x.old, .string x.new] 33) := ⟨_, rfl⟩
  have ss1 : w0.heap.size = w.heap.size + 1 := by rw [hw0]; simp
  have ba0 : Below w.heap.size w w0 := by rw [hw0]; exact below_alloc _
  have bb0 : Below w.heap.size w w0 := ba0
  have hb0 : w0.heap[w.heap.size]? = some (.cells #[.int .i64 x.line, .string x.old, .string x.new] 33) := by rw [hw0]; exact heap_new rfl
  have qq := fun i => cell_of_row w0 (w.heap.size) i _ _ _ hb0
  have qx0 : w0.cell? ⟨w.heap.size, 0, none⟩ = some (.int .i64 x.line) := qq 0
  have qx1 : w0.cell? ⟨w.heap.size, 1, none⟩ = some (.string x.old) := qq 1
  have qx2 : w0.cell? ⟨w.heap.size, 2, none⟩ = some (.string x.new) := qq 2
  clear qq hb0
  have b0 := bb0
  clear ss1 ba0 bb0
  replace hM := cell_below b0 hM
  go_enter Try.func6, Try.ntmps6
  go_wp2_with fail
  rw [← hw0]
  clear hw0
  have hltx := lt_of_cell qx0
  have hltM := lt_of_cell hM
  refine (szStringS_any _ _ _ _ _ _ (hal.below b0) (by omega) (by omega) hgl).mono ?_
  rintro e w1 ⟨⟨r1, rfl, hr⟩, b1⟩
  have t1 := below_trans b0 b1
  replace qx0 := cell_below b1 qx0
  replace qx1 := cell_below b1 qx1
  replace qx2 := cell_below b1 qx2
  replace hM := cell_below b1 hM
  rcases hr with rfl | hr
  · go_wp2
    go_ret
    exact ⟨rfl, t1⟩
  obtain ⟨hr1a, hr1b, hln, hstl⟩ := hr
  have hnl : nl ≤ 1048576 := by have := hal.len; omega
  clear hln
  have hzl : ∀ s ∈ l, s.size ≤ 1048576 := fun s hs => by have := hstl s hs; omega
  go_wp2_with fail
  refine (szCorrection_any _ _ _ _ _ (by omega) (by omega) (gx.2.1) (gx.2.2)).mono ?_
  rintro e w2 ⟨⟨r2, rfl, hr⟩, b2⟩
  have t2 := below_trans t1 b2
  replace qx0 := cell_below b2 qx0
  replace qx1 := cell_below b2 qx1
  replace qx2 := cell_below b2 qx2
  replace hM := cell_below b2 hM
  rcases hr with rfl | hr
  · go_wp2
    go_ret
    exact ⟨rfl, t2⟩
  obtain ⟨hr2a, hr2b, hsx0, hsx1⟩ := hr
  simp only at hsx0 hsx1
  have hzx0 : x.old.size ≤ 1048576 := by omega
  have hzx1 : x.new.size ≤ 1048576 := by omega
  have hlen : (undoL l x).length ≤ nl := by rw [← hal.len]; exact undoL_len l x
  go_upto_region 8 with fail
  go_cut [6, 7] (fun s6 s7 wy => (∃ A q c, s6 = .slice A q c ∧ s7 = .bool (undoG l x) ∧ Own stV 1 wy w2.heap.size 9 A q c (undoL l x)) ∧ Below w2.heap.size w2 wy)
  case first =>
    go_region_with (first
      | (go_at_call 13; refine (toStringS_any _ _ _ _ _ (((hal.below t2)).drew) hnl).mono ?_; rintro e wrg0 ⟨Arg0, crg0, rfl, org0, brg0⟩; have qx0_r0 := cell_below brg0 (show (World.drew _).cell? _ = _ from qx0); have qx1_r0 := cell_below brg0 (show (World.drew _).cell? _ = _ from qx1); have qx2_r0 := cell_below brg0 (show (World.drew _).cell? _ = _ from qx2); have hM_r0 := cell_below brg0 (show (World.drew _).cell? _ = _ from hM); have bcum0 : Below _ _ _ := brg0)
      | (go_at_call 21; refine (toCorrection_any _ _ _ _).mono ?_; rintro e wrg1 ⟨rfl, brg1⟩; have qx0_r1 := cell_below brg1 qx0_r0; have qx1_r1 := cell_below brg1 qx1_r0; have qx2_r1 := cell_below brg1 qx2_r0; have hM_r1 := cell_below brg1 hM_r0; have bcum1 := below_trans bcum0 brg1)
      | (go_at_call 25; refine (specUndo_any _ _ _ _ x _ ((org0.below brg1).rd stV_len) hnl hzl hzx0 hzx1).mono ?_; rintro e wz ⟨⟨Az, qz, cz, rfl, oz⟩, bz⟩))
    all_goals (go_wp2_with fail; go_meet; exact ⟨⟨_, _, _, rfl, rfl, (oz.base_le (show w2.heap.size ≤ _ from bcum1.size))⟩, below_trans (show Below w2.heap.size w2 _ from ⟨bcum1.os, bcum1.tape, bcum1.output, bcum1.size, bcum1.block⟩) bz⟩)
  case rest =>
  obtain ⟨w3, rfl⟩ : ∃ x : World, x = wc := ⟨_, rfl⟩
  obtain ⟨⟨A1, q1, c1, rfl, rfl, o1⟩, b3⟩ := hcut
  have t3 := below_trans t2 b3
  replace qx0 := cell_below b3 qx0
  replace qx1 := cell_below b3 qx1
  replace qx2 := cell_below b3 qx2
  replace hM := cell_below b3 hM
  have o1_b := o1
  have hq1 : q1 ≤ 1048577 := by rw [← o1.len]; omega
  go_wp2_with fail
  refine (toStringS_any _ _ _ _ _ (hal.below t3) hnl).mono ?_
  rintro e w4 ⟨A2, c2, rfl, o2, b4⟩
  have t4 := below_trans t3 b4
  have o1 := o1.below b4
  replace qx0 := cell_below b4 qx0
  replace qx1 := cell_below b4 qx1
  replace qx2 := cell_below b4 qx2
  replace hM := cell_below b4 hM
  have o2_b := o2
  go_wp2_with fail
  refine (toCorrection_any _ _ _ _).mono ?_
  rintro e w5 ⟨rfl, b5⟩
  have t5 := below_trans t4 b5
  have o1 := o1.below b5
  have o2 := o2.below b5
  replace qx0 := cell_below b5 qx0
  replace qx1 := cell_below b5 qx1
  replace qx2 := cell_below b5 qx2
  replace hM := cell_below b5 hM
  go_wp2_with fail
  refine (implUndo_any _ _ _ _ x mx _ (o2.rd stV_len) hnl hzl hzx0 hzx1 hM).mono ?_
  rintro e w6 ⟨⟨A3, q3, c3, rfl, o3⟩, b6⟩
  have t6 := below_trans t5 b6
  have o1 := o1.below b6
  have o2 := o2.below b6
  replace qx0 := cell_below b6 qx0
  replace qx1 := cell_below b6 qx1
  replace qx2 := cell_below b6 qx2
  replace hM := cell_below b6 hM
  have o3_b := o3
  have hq3 : q3 ≤ 1048577 := by rw [← o3.len]; omega
  go_wp2_with fail
  refine (eqStringS_same _ _ _ _ _ _ _ _ (o3.rd stV_len) (o1.rd stV_len)).mono ?_
  rintro e w7 ⟨rfl, b7⟩
  have t7 := below_trans t6 b7
  have o1 := o1.below b7
  have o2 := o2.below b7
  have o3 := o3.below b7
  replace qx0 := cell_below b7 qx0
  replace qx1 := cell_below b7 qx1
  replace qx2 := cell_below b7 qx2
  replace hM := cell_below b7 hM
  go_wp2_with fail
  refine (toStringS_any _ _ _ _ _ (hal.below t7) hnl).mono ?_
  rintro e w8 ⟨A4, c4, rfl, o4, b8⟩
  have t8 := below_trans t7 b8
  have o1 := o1.below b8
  have o2 := o2.below b8
  have o3 := o3.below b8
  replace qx0 := cell_below b8 qx0
  replace qx1 := cell_below b8 qx1
  replace qx2 := cell_below b8 qx2
  replace hM := cell_below b8 hM
  have o4_b := o4
  go_wp2_with fail
  refine (eqStringS_same _ _ _ _ _ _ _ _ (o2.rd stV_len) (o4.rd stV_len)).mono ?_
  rintro e w9 ⟨rfl, b9⟩
  have t9 := below_trans t8 b9
  have o1 := o1.below b9
  have o2 := o2.below b9
  have o3 := o3.below b9
  have o4 := o4.below b9
  replace qx0 := cell_below b9 qx0
  replace qx1 := cell_below b9 qx1
  replace qx2 := cell_below b9 qx2
  replace hM := cell_below b9 hM
  go_wp2_with fail
  refine (markStringS_any _ _ _ _ _ _ _ _ o2 (by omega) (by omega) (by omega) (Nat.le_trans (Nat.le_trans (Nat.le_trans (Nat.le_trans (Nat.le_trans b4.size b5.size) b6.size) b7.size) b8.size) b9.size)).mono ?_
  rintro e w10 ⟨rfl, o2_m, g10⟩
  have o1_n := o1.grown g10 (Own.apart' o1_b o2 (Nat.le_refl _))
  have o3_n := o3.grown g10 (Own.apart o2_b o3 b5.size)
  have o4_n := o4.grown g10 (Own.apart o2_b o4 (Nat.le_trans (Nat.le_trans b5.size b6.size) b7.size))
  have t10 := t9.trans (o2.below_of g10 t3.size t9.size)
  replace qx0 := World.grownBy.cell g10 qx0 (Own.not_block o2 (Nat.lt_of_lt_of_le hltx (Nat.le_trans (Nat.le_trans b1.size b2.size) b3.size)))
  replace qx1 := World.grownBy.cell g10 qx1 (Own.not_block o2 (Nat.lt_of_lt_of_le hltx (Nat.le_trans (Nat.le_trans b1.size b2.size) b3.size)))
  replace qx2 := World.grownBy.cell g10 qx2 (Own.not_block o2 (Nat.lt_of_lt_of_le hltx (Nat.le_trans (Nat.le_trans b1.size b2.size) b3.size)))
  replace hM := World.grownBy.cell g10 hM (Own.not_block o2 (Nat.lt_of_lt_of_le hltM (Nat.le_trans (Nat.le_trans b1.size b2.size) b3.size)))
  clear o2 o1 o3 o4
  have o1 := o1_n
  have o3 := o3_n
  have o4 := o4_n
  have o2 := o2_m
  clear o2_m o1_n o3_n o4_n
  go_wp2_with fail
  refine (eqStringS_same _ _ _ _ _ _ _ _ (o3.rd stV_len) (o1.rd stV_len)).mono ?_
  rintro e w11 ⟨rfl, b11⟩
  have t11 := below_trans t10 b11
  have o1 := o1.below b11
  have o2 := o2.below b11
  have o3 := o3.below b11
  have o4 := o4.below b11
  replace qx0 := cell_below b11 qx0
  replace qx1 := cell_below b11 qx1
  replace qx2 := cell_below b11 qx2
  replace hM := cell_below b11 hM
  go_wp2_with fail
  refine (markStringS_any _ _ _ _ _ _ _ _ o3 (by omega) (by omega) (by omega) (Nat.le_trans (Nat.le_trans (Nat.le_trans (Nat.le_trans (Nat.le_trans b6.size b7.size) b8.size) b9.size) g10.size) b11.size)).mono ?_
  rintro e w12 ⟨rfl, o3_m, g12⟩
  have o1_n := o1.grown g12 (Own.apart' o1_b o3 (Nat.le_trans b4.size b5.size))
  have o2_n := o2.grown g12 (Own.apart' o2_b o3 b5.size)
  have o4_n := o4.grown g12 (Own.apart o3_b o4 b7.size)
  have t12 := t11.trans (o3.below_of g12 t5.size t11.size)
  replace qx0 := World.grownBy.cell g12 qx0 (Own.not_block o3 (Nat.lt_of_lt_of_le hltx (Nat.le_trans (Nat.le_trans (Nat.le_trans (Nat.le_trans b1.size b2.size) b3.size) b4.size) b5.size)))
  replace qx1 := World.grownBy.cell g12 qx1 (Own.not_block o3 (Nat.lt_of_lt_of_le hltx (Nat.le_trans (Nat.le_trans (Nat.le_trans (Nat.le_trans b1.size b2.size) b3.size) b4.size) b5.size)))
  replace qx2 := World.grownBy.cell g12 qx2 (Own.not_block o3 (Nat.lt_of_lt_of_le hltx (Nat.le_trans (Nat.le_trans (Nat.le_trans (Nat.le_trans b1.size b2.size) b3.size) b4.size) b5.size)))
  replace hM := World.grownBy.cell g12 hM (Own.not_block o3 (Nat.lt_of_lt_of_le hltM (Nat.le_trans (Nat.le_trans (Nat.le_trans (Nat.le_trans b1.size b2.size) b3.size) b4.size) b5.size)))
  clear o3 o1 o2 o4
  have o1 := o1_n
  have o2 := o2_n
  have o4 := o4_n
  have o3 := o3_m
  clear o3_m o1_n o2_n o4_n
  go_wp2_with fail
  refine (heldStringS_any _ _ _ _ _ (o3.rd stV_len) (by omega) (by omega) (by omega)).mono ?_
  rintro e w13 ⟨rfl, b13⟩
  have t13 := below_trans t12 b13
  have o1 := o1.below b13
  have o2 := o2.below b13
  have o3 := o3.below b13
  have o4 := o4.below b13
  replace qx0 := cell_below b13 qx0
  replace qx1 := cell_below b13 qx1
  replace qx2 := cell_below b13 qx2
  replace hM := cell_below b13 hM
  go_upto_region 27 with fail
  go_cut [14, 15] (fun s14 s15 wy => (∃ A q c, s14 = .slice A q c ∧ s15 = .bool (undoG l x) ∧ Own stV 1 wy w13.heap.size 9 A q c (undoL l x)) ∧ Below w13.heap.size w13 wy)
  case first =>
    go_region_with (first
      | (go_at_call 13; refine (toStringS_any _ _ _ _ _ (((hal.below t13)).drew) hnl).mono ?_; rintro e wrg0 ⟨Arg0, crg0, rfl, org0, brg0⟩; have qx0_r0 := cell_below brg0 (show (World.drew _).cell? _ = _ from qx0); have qx1_r0 := cell_below brg0 (show (World.drew _).cell? _ = _ from qx1); have qx2_r0 := cell_below brg0 (show (World.drew _).cell? _ = _ from qx2); have hM_r0 := cell_below brg0 (show (World.drew _).cell? _ = _ from hM); have bcum0 : Below _ _ _ := brg0)
      | (go_at_call 21; refine (toCorrection_any _ _ _ _).mono ?_; rintro e wrg1 ⟨rfl, brg1⟩; have qx0_r1 := cell_below brg1 qx0_r0; have qx1_r1 := cell_below brg1 qx1_r0; have qx2_r1 := cell_below brg1 qx2_r0; have hM_r1 := cell_below brg1 hM_r0; have bcum1 := below_trans bcum0 brg1)
      | (go_at_call 26; refine (implUndo_any _ _ _ _ x mx _ ((org0.below brg1).rd stV_len) hnl hzl hzx0 hzx1 hM_r1).mono ?_; rintro e wz ⟨⟨Az, qz, cz, rfl, oz⟩, bz⟩))
    all_goals (go_wp2_with fail; go_meet; exact ⟨⟨_, _, _, rfl, rfl, (oz.base_le (show w13.heap.size ≤ _ from bcum1.size))⟩, below_trans (show Below w13.heap.size w13 _ from ⟨bcum1.os, bcum1.tape, bcum1.output, bcum1.size, bcum1.block⟩) bz⟩)
  case rest =>
  obtain ⟨w14, rfl⟩ : ∃ x : World, x = wc := ⟨_, rfl⟩
  obtain ⟨⟨A5, q5, c5, rfl, rfl, o5⟩, b14⟩ := hcut
  have t14 := below_trans t13 b14
  have o1 := o1.below b14
  have o2 := o2.below b14
  have o3 := o3.below b14
  have o4 := o4.below b14
  replace qx0 := cell_below b14 qx0
  replace qx1 := cell_below b14 qx1
  replace qx2 := cell_below b14 qx2
  replace hM := cell_below b14 hM
  have o5_b := o5
  go_wp2_with fail
  refine (eqStringS_same _ _ _ _ _ _ _ _ (o5.rd stV_len) (o1.rd stV_len)).mono ?_
  rintro e w15 ⟨rfl, b15⟩
  have t15 := below_trans t14 b15
  have o1 := o1.below b15
  have o2 := o2.below b15
  have o3 := o3.below b15
  have o4 := o4.below b15
  have o5 := o5.below b15
  replace qx0 := cell_below b15 qx0
  replace qx1 := cell_below b15 qx1
  replace qx2 := cell_below b15 qx2
  replace hM := cell_below b15 hM
  go_wp2_with fail
  refine (heldStringS_any _ _ _ _ _ (o3.rd stV_len) (by omega) (by omega) (by omega)).mono ?_
  rintro e w16 ⟨rfl, b16⟩
  have t16 := below_trans t15 b16
  have o1 := o1.below b16
  have o2 := o2.below b16
  have o3 := o3.below b16
  have o4 := o4.below b16
  have o5 := o5.below b16
  replace qx0 := cell_below b16 qx0
  replace qx1 := cell_below b16 qx1
  replace qx2 := cell_below b16 qx2
  replace hM := cell_below b16 hM
  go_wp2
  go_ret
  exact ⟨rfl, t16⟩

set_option maxRecDepth 100000 in
theorem lifted (os : Os) (started : os.Started) (H : Type) (enc : TypeId × Value → H) :
    ReturnsInHanded {} Try.checked os 6 .any (Rows.fnExactUndoCorrectionSpec.pre6 enc Try.prog Try.f6 Rows.fnExactUndoCorrectionRow.domain false) (Rows.fnExactUndoCorrectionSpec.post enc Try.prog Try.f6 false true false false) := by
  refine returnsInHanded_of_change_shaped (C := Try.checked) own started (by kernel_rfl) Try.func6
    (ChangeSpec.witness6 (enc := enc) (C := Try.checked) false ⟨#[], #[.slice none 0 0, .agg #[.int .i64 0, .string ByteArray.empty, .string ByteArray.empty]], []⟩ 8 (by kernel_rfl) (by kernel_rfl) (by kernel_rfl) (by kernel_rfl)) ?_
  intro W base args ds gs before hval0 hW hcnd _ hsh _
  have hval : ∀ (j : Nat) t v, Try.f6.params[j]? = some t → args[j]? = some v → Value.okWide Try.prog W .any base t v := hval0
  have hW' := hW
  obtain ⟨p, q, hA0, hV, rfl, hfz, hnd⟩ := hW
  have hA : DataW.TrodAll enc Try.prog W 0 (fun _ => true) true Try.f6.params.toList args.toList ds p := hA0
  rw [Try.params6] at hA hval
  obtain ⟨v0, vs0, d0, ds0, p0, q0, hargs, rfl, rfl, h0, r0⟩ := trodAll_cons hA
  obtain ⟨v1, vs1, d1, ds1, p1, q1, rfl, rfl, rfl, h1, r1⟩ := trodAll_cons r0
  obtain ⟨rfl, rfl, rfl⟩ := trodAll_nil r1
  obtain rfl : args = #[v0, v1] := by cases args; simp_all
  obtain ⟨rfl, rfl⟩ := trodVars_none hV
  obtain ⟨A0, n0, c0, l0, rfl, R0, G0⟩ := open_rd (ec := stV) Try.underlying22 (by kernel_rfl) (read_strs) (by omega) stV_len (hval 0 22 v0 rfl rfl) h0
  obtain ⟨x1, rfl, g1⟩ := open_val (ec := coV) Try.underlying33 read_co (hval 1 33 v1 rfl rfl) h1
  obtain ⟨mx, hM⟩ := Try.laysM143.s1_3 W (show W.ShapedOpen Try.prog from hsh)
  refine (walk A0 n0 c0 l0 x1 mx W R0 G0 g1 hM).mono fun e W' ⟨he, hb⟩ => ?_
  subst he
  exact ⟨_, rfl, law_post laidOut (by kernel_rfl) (by kernel_rfl) Try.underlying4 rfl hW' rfl rfl rfl hb⟩

theorem over : Rows.fnExactUndoCorrectionRow.holds Try.pinned (OpenSpec.ofChange Rows.fnExactUndoCorrectionSpec) :=
  OpenClaim.holds_of_wide 6 Try.f6 rfl rfl rfl rfl rfl rfl rfl ⟨rfl, rfl, rfl, rfl, rfl⟩ rfl rfl rfl rfl rfl (by kernel_rfl) Try.func6 (by kernel_rfl)
    (of_decide_eq_true (by kernel_rfl)) (by unfold Func.isWrapper; rw [if_neg (of_decide_eq_false (by kernel_rfl))]; exact ⟨rfl, rfl⟩)
    (fun os started H enc _ => lifted os started H enc)

theorem proved : Rows.FnExactUndoCorrectionSaid :=
  over
#print axioms proved
end Go.Proofs.Ytdipeigcgmnhjaa.fnExactUndoCorrection
