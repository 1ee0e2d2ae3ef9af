/- FnExactAddStep: for every list of steps and every step the program's AddStep and the reference's return the same, the list is left as it was, and the result's memory is shared with nothing. No condition.
-/
import Derived.Test.YtndhbkpbopgfdaaRead
import Derived.Deep.RegionWith
import Derived.Test.YtndhbkpbopgfdaaTraF
namespace Go.Proofs.Ytndhbkpbopgfdaa.fnExactAddStep
open Go Go.ChangeShapes Go.WideShapes Go.ChangeAt Go.RowKit Go.Sort
open Go.ChangeMaps (open_string)
set_option linter.unusedVariables false

theorem own : ownKnob Try.prog.godebug = none := by kernel_rfl
theorem laidOut : laidOutB Try.prog = true := by kernel_rfl

set_option maxRecDepth 100000 in
set_option maxHeartbeats 4000000 in
theorem walk (A : Option Addr) (n c : Nat) (l : List TS) (s : TS) (w : World) (ha : Rd tsV 2 w A n c l) (hg : ∀ x ∈ l, tsGood x) (gs : tsGood s) :
    Calls Try.prog 7 #[.slice A n c, .agg (tsV s).toArray] w fun e w' => e = .returned (.bool true) ∧ Below w.heap.size w w' := by
  show Calls _ _ #[_, .agg #[.int .i64 s.m, .int .i64 s.k]] _ _
  by_cases hs : (1048576 : Int) < n
  · go_enter Try.func7, Try.ntmps7
    go_wp2_with fail
    refine (szTraceStepS_no _ _ _ _ _ _ (ha.alloc _) (by omega) (by omega) hs).mono ?_
    rintro e w1 ⟨rfl, rfl⟩
    go_wp2
    go_ret
    exact ⟨rfl, below_alloc _⟩
  · have hn : n ≤ 1048576 := by omega
    go_enter Try.func7, Try.ntmps7
    have b0 : Below w.heap.size w (w.alloc (.cells #[.int .i64 s.m, .int .i64 s.k] 37)) := below_alloc _
    have q0 := fun i => cell_of_row (w.alloc (.cells #[.int .i64 s.m, .int .i64 s.k] 37)) w.heap.size i _ _ _ (heap_new rfl)
    have qm : (w.alloc (.cells #[.int .i64 s.m, .int .i64 s.k] 37)).cell? ⟨w.heap.size, 0, none⟩ = some (.int .i64 s.m) := q0 0
    have qk : (w.alloc (.cells #[.int .i64 s.m, .int .i64 s.k] 37)).cell? ⟨w.heap.size, 1, none⟩ = some (.int .i64 s.k) := q0 1
    clear q0
    have hnq : (addL l s).length ≤ n + 1 := by unfold addL; split <;> simp [ha.len]
    go_wp2_with fail
    refine (szTraceStepS_yes _ _ _ _ _ _ (ha.below b0) (by omega) (by omega) (by omega)).mono ?_
    rintro e wx ⟨rfl, rfl⟩
    go_upto_region 5 with fail
    go_cut [6, 7] (fun sa sb wy => (∃ A q c, sa = .slice A q c ∧ sb = .bool (addB l s) ∧ Own tsV 2 wy (w.alloc (.cells #[.int .i64 s.m, .int .i64 s.k] 37)).heap.size 40 A q c (addL l s)) ∧ Below (w.alloc (.cells #[.int .i64 s.m, .int .i64 s.k] 37)).heap.size (w.alloc (.cells #[.int .i64 s.m, .int .i64 s.k] 37)) wy)
    case first =>
      go_region_with (first
        | (go_at_call 14; refine (toTraceStepS_any _ _ _ _ _ ((ha.below b0).drew) hn).mono ?_; rintro e wa ⟨Aa, ca, rfl, oa, ba⟩; have qm1 := cell_below ba (show (World.drew _).cell? _ = _ from qm); have qk1 := cell_below ba (show (World.drew _).cell? _ = _ from qk))
        | (go_at_call 24; refine (toTraceStep_any _ _ _).mono ?_; rintro e wb ⟨rfl, bb⟩)
        | (go_at_call 23; refine (specAddStep_any _ _ _ _ _ _ ((oa.below bb).rd tsV_len) (by omega)).mono ?_; rintro e wc ⟨⟨Ac, qc, cc, rfl, oc⟩, bc⟩))
      all_goals (go_wp2_with fail; go_meet; exact ⟨⟨_, _, _, rfl, rfl, oc.base_le (Nat.le_trans ba.size bb.size)⟩, below_trans (below_trans (show Below _ _ _ from ⟨ba.os, ba.tape, ba.output, ba.size, ba.block⟩) bb) bc⟩)
    case rest =>
    obtain ⟨w1, rfl⟩ : ∃ x : World, x = wc := ⟨_, rfl⟩
    obtain ⟨⟨A1, q1, c1, rfl, rfl, o1⟩, b1⟩ := hcut
    have t1 := below_trans b0 b1
    replace qm := cell_below b1 qm
    replace qk := cell_below b1 qk
    have o1_b := o1
    have hq1 : q1 ≤ 1048577 := by rw [← o1.len]; omega
    go_wp2_with fail
    refine (toTraceStepS_any _ _ _ _ _ (ha.below t1) hn).mono ?_
    rintro e w2 ⟨A2, c2, rfl, o2, b2⟩
    have t2 := below_trans t1 b2
    have o1 := o1.below b2
    replace qm := cell_below b2 qm
    replace qk := cell_below b2 qk
    have o2_b := o2
    go_wp2_with fail
    refine (toTraceStep_any _ _ _).mono ?_
    rintro e w3 ⟨rfl, b3⟩
    have t3 := below_trans t2 b3
    have o1 := o1.below b3
    have o2 := o2.below b3
    replace qm := cell_below b3 qm
    replace qk := cell_below b3 qk
    go_wp2_with fail
    refine (implAddStep_any _ _ _ _ _ _ (o2.rd tsV_len) (by omega)).mono ?_
    rintro e w4 ⟨⟨A3, q3, c3, rfl, o3⟩, b4⟩
    have t4 := below_trans t3 b4
    have o1 := o1.below b4
    have o2 := o2.below b4
    replace qm := cell_below b4 qm
    replace qk := cell_below b4 qk
    have o3_b := o3
    have hq3 : q3 ≤ 1048577 := by rw [← o3.len]; omega
    go_wp2_with fail
    refine (eqTraceStepS_same _ _ _ _ _ _ _ _ (o3.rd tsV_len) (o1.rd tsV_len)).mono ?_
    rintro e w5 ⟨rfl, b5⟩
    have t5 := below_trans t4 b5
    have o1 := o1.below b5
    have o2 := o2.below b5
    have o3 := o3.below b5
    replace qm := cell_below b5 qm
    replace qk := cell_below b5 qk
    go_wp2_with fail
    refine (toTraceStepS_any _ _ _ _ _ (ha.below t5) hn).mono ?_
    rintro e w6 ⟨A4, c4, rfl, o4, b6⟩
    have t6 := below_trans t5 b6
    have o1 := o1.below b6
    have o2 := o2.below b6
    have o3 := o3.below b6
    replace qm := cell_below b6 qm
    replace qk := cell_below b6 qk
    have o4_b := o4
    go_wp2_with fail
    refine (eqTraceStepS_same _ _ _ _ _ _ _ _ (o2.rd tsV_len) (o4.rd tsV_len)).mono ?_
    rintro e w7 ⟨rfl, b7⟩
    have t7 := below_trans t6 b7
    have o1 := o1.below b7
    have o2 := o2.below b7
    have o3 := o3.below b7
    have o4 := o4.below b7
    replace qm := cell_below b7 qm
    replace qk := cell_below b7 qk
    go_wp2_with fail
    refine (markTraceStepS_any _ _ _ _ _ _ _ _ o2 (by omega) (by omega) (by omega) (Nat.le_trans (Nat.le_trans (Nat.le_trans (Nat.le_trans (Nat.le_trans b2.size b3.size) b4.size) b5.size) b6.size) b7.size)).mono ?_
    rintro e w8 ⟨rfl, o2_m, g8⟩
    have o1_n := o1.grown g8 (Own.apart' o1_b o2 (Nat.le_refl _))
    have o3_n := o3.grown g8 (Own.apart o2_b o3 b3.size)
    have o4_n := o4.grown g8 (Own.apart o2_b o4 (Nat.le_trans (Nat.le_trans b3.size b4.size) b5.size))
    have t8 := t7.trans (o2.below_of g8 t1.size t7.size)
    replace qm := World.grownBy.cell g8 qm (Own.not_block o2 (Nat.lt_of_lt_of_le (by simp) b1.size))
    replace qk := World.grownBy.cell g8 qk (Own.not_block o2 (Nat.lt_of_lt_of_le (by simp) b1.size))
    clear o2 o1 o3 o4
    have o1 := o1_n
    have o3 := o3_n
    have o4 := o4_n
    have o2 := o2_m
    clear o2_m o1_n o3_n o4_n
    go_wp2_with fail
    refine (eqTraceStepS_same _ _ _ _ _ _ _ _ (o3.rd tsV_len) (o1.rd tsV_len)).mono ?_
    rintro e w9 ⟨rfl, b9⟩
    have t9 := below_trans t8 b9
    have o1 := o1.below b9
    have o2 := o2.below b9
    have o3 := o3.below b9
    have o4 := o4.below b9
    replace qm := cell_below b9 qm
    replace qk := cell_below b9 qk
    go_wp2_with fail
    refine (markTraceStepS_any _ _ _ _ _ _ _ _ o3 (by omega) (by omega) (by omega) (Nat.le_trans (Nat.le_trans (Nat.le_trans (Nat.le_trans (Nat.le_trans b4.size b5.size) b6.size) b7.size) g8.size) b9.size)).mono ?_
    rintro e w10 ⟨rfl, o3_m, g10⟩
    have o1_n := o1.grown g10 (Own.apart' o1_b o3 (Nat.le_trans b2.size b3.size))
    have o2_n := o2.grown g10 (Own.apart' o2_b o3 b3.size)
    have o4_n := o4.grown g10 (Own.apart o3_b o4 b5.size)
    have t10 := t9.trans (o3.below_of g10 t3.size t9.size)
    replace qm := World.grownBy.cell g10 qm (Own.not_block o3 (Nat.lt_of_lt_of_le (by simp) (Nat.le_trans (Nat.le_trans b1.size b2.size) b3.size)))
    replace qk := World.grownBy.cell g10 qk (Own.not_block o3 (Nat.lt_of_lt_of_le (by simp) (Nat.le_trans (Nat.le_trans b1.size b2.size) b3.size)))
    clear o3 o1 o2 o4
    have o1 := o1_n
    have o2 := o2_n
    have o4 := o4_n
    have o3 := o3_m
    clear o3_m o1_n o2_n o4_n
    go_wp2_with fail
    refine (heldTraceStepS_any _ _ _ _ _ (o3.rd tsV_len) (by omega) (by omega) (by omega)).mono ?_
    rintro e w11 ⟨rfl, b11⟩
    have t11 := below_trans t10 b11
    have o1 := o1.below b11
    have o2 := o2.below b11
    have o3 := o3.below b11
    have o4 := o4.below b11
    replace qm := cell_below b11 qm
    replace qk := cell_below b11 qk
    go_upto_region 24 with fail
    go_cut [14, 15] (fun sa sb wy => (∃ A q c, sa = .slice A q c ∧ sb = .bool (addB l s) ∧ Own tsV 2 wy w11.heap.size 40 A q c (addL l s)) ∧ Below w11.heap.size w11 wy)
    case first =>
      go_region_with (first
        | (go_at_call 14; refine (toTraceStepS_any _ _ _ _ _ ((ha.below t11).drew) hn).mono ?_; rintro e wa ⟨Aa, ca, rfl, oa, ba⟩; have qm1 := cell_below ba (show (World.drew _).cell? _ = _ from qm); have qk1 := cell_below ba (show (World.drew _).cell? _ = _ from qk))
        | (go_at_call 24; refine (toTraceStep_any _ _ _).mono ?_; rintro e wb ⟨rfl, bb⟩)
        | (go_at_call 25; refine (implAddStep_any _ _ _ _ _ _ ((oa.below bb).rd tsV_len) (by omega)).mono ?_; rintro e wc ⟨⟨Ac, qc, cc, rfl, oc⟩, bc⟩))
      all_goals (go_wp2_with fail; go_meet; exact ⟨⟨_, _, _, rfl, rfl, oc.base_le (Nat.le_trans ba.size bb.size)⟩, below_trans (below_trans (show Below _ _ _ from ⟨ba.os, ba.tape, ba.output, ba.size, ba.block⟩) bb) bc⟩)
    case rest =>
    obtain ⟨w12, rfl⟩ : ∃ x : World, x = wc := ⟨_, rfl⟩
    obtain ⟨⟨A5, q5, c5, rfl, rfl, o5⟩, b12⟩ := hcut
    have t12 := below_trans t11 b12
    have o1 := o1.below b12
    have o2 := o2.below b12
    have o3 := o3.below b12
    have o4 := o4.below b12
    replace qm := cell_below b12 qm
    replace qk := cell_below b12 qk
    have o5_b := o5
    have hq5 : q5 ≤ 1048577 := by rw [← o5.len]; omega
    go_wp2_with fail
    refine (eqTraceStepS_same _ _ _ _ _ _ _ _ (o5.rd tsV_len) (o1.rd tsV_len)).mono ?_
    rintro e w13 ⟨rfl, b13⟩
    have t13 := below_trans t12 b13
    have o1 := o1.below b13
    have o2 := o2.below b13
    have o3 := o3.below b13
    have o4 := o4.below b13
    have o5 := o5.below b13
    replace qm := cell_below b13 qm
    replace qk := cell_below b13 qk
    go_wp2_with fail
    refine (heldTraceStepS_any _ _ _ _ _ (o3.rd tsV_len) (by omega) (by omega) (by omega)).mono ?_
    rintro e w14 ⟨rfl, b14⟩
    have t14 := below_trans t13 b14
    have o1 := o1.below b14
    have o2 := o2.below b14
    have o3 := o3.below b14
    have o4 := o4.below b14
    have o5 := o5.below b14
    replace qm := cell_below b14 qm
    replace qk := cell_below b14 qk
    go_wp2
    go_ret
    exact ⟨rfl, t14⟩

set_option maxRecDepth 100000 in
theorem lifted (os : Os) (started : os.Started) (H : Type) (enc : TypeId × Value → H) :
    ReturnsInHanded {} Try.checked os 7 .any (Rows.fnExactAddStepSpec.pre6 enc Try.prog Try.f7 Rows.fnExactAddStepRow.domain false) (Rows.fnExactAddStepSpec.post enc Try.prog Try.f7 false true false false) := by
  refine returnsInHanded_of_change (C := Try.checked) own started (by kernel_rfl) Try.func7
    (ChangeSpec.witness6 (enc := enc) (C := Try.checked) false ⟨#[], #[.slice none 0 0, .agg #[.int .i64 0, .int .i64 0]], []⟩ 8 (by kernel_rfl) (by kernel_rfl) (by kernel_rfl) (by kernel_rfl)) ?_
  intro W base args ds gs before hval0 hW hcnd _
  have hval : ∀ (j : Nat) t v, Try.f7.params[j]? = some t → args[j]? = some v → Value.okWide Try.prog W .any base t v := hval0
  have hW' := hW
  obtain ⟨p, q, hA0, hV, rfl, hfz, hnd⟩ := hW
  have hA : DataW.TrodAll enc Try.prog W 0 (fun _ => true) true Try.f7.params.toList args.toList ds p := hA0
  rw [Try.params7] at hA hval
  obtain ⟨v0, vs0, d0, ds0, p0, q0, hargs, rfl, rfl, h0, r0⟩ := trodAll_cons hA
  obtain ⟨v1, vs1, d1, ds1, p1, q1, rfl, rfl, rfl, h1, r1⟩ := trodAll_cons r0
  obtain ⟨rfl, rfl, rfl⟩ := trodAll_nil r1
  obtain rfl : args = #[v0, v1] := by cases args; simp_all
  obtain ⟨rfl, rfl⟩ := trodVars_none hV
  obtain ⟨A0, n0, c0, l0, rfl, R0, G0⟩ := open_rd (ec := tsV) Try.underlying22 (by kernel_rfl) (read_ts) (by omega) tsV_len (hval 0 22 v0 rfl rfl) h0
  obtain ⟨x1, rfl, g1⟩ := open_val (ec := tsV) Try.underlying37 read_ts (hval 1 37 v1 rfl rfl) h1
  refine (walk A0 n0 c0 l0 x1 W R0 G0 g1).mono fun e W' ⟨he, hb⟩ => ?_
  subst he
  exact ⟨_, rfl, law_post laidOut (by kernel_rfl) (by kernel_rfl) Try.underlying4 rfl hW' rfl rfl rfl hb⟩

theorem over : Rows.fnExactAddStepRow.holds Try.pinned (OpenSpec.ofChange Rows.fnExactAddStepSpec) :=
  OpenClaim.holds_of_wide 7 Try.f7 rfl rfl rfl rfl rfl rfl rfl ⟨rfl, rfl, rfl, rfl, rfl⟩ rfl rfl rfl rfl rfl (by kernel_rfl) Try.func7 (by kernel_rfl)
    (of_decide_eq_true (by kernel_rfl)) (by unfold Func.isWrapper; rw [if_neg (of_decide_eq_false (by kernel_rfl))]; exact ⟨rfl, rfl⟩)
    (fun os started H enc _ => lifted os started H enc)

theorem proved : Rows.FnExactAddStepSaid :=
  over
#print axioms proved
end Go.Proofs.Ytndhbkpbopgfdaa.fnExactAddStep
