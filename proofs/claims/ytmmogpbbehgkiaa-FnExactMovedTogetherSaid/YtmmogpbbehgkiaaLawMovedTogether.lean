/- FnExactMovedTogether: for all arguments the program's MovedTogether and the reference's return the same, the arguments are left as they were, and the result's memory is shared with nothing. No condition.
-/
import Derived.Test.YtmmogpbbehgkiaaRead
import Derived.Test.YtmmogpbbehgkiaaMovC
namespace Go.Proofs.Ytmmogpbbehgkiaa.fnExactMovedTogether
open Go Go.ChangeShapes Go.WideShapes Go.ChangeAt Go.RowKit Go.Sort
open Go.ChangeMaps (open_string)
set_option linter.unusedVariables false

theorem own : ownKnob Try.prog.godebug = none := by kernel_rfl
theorem laidOut : laidOutB Try.prog = true := by kernel_rfl

set_option maxRecDepth 100000 in
set_option maxHeartbeats 4000000 in
theorem walk (Al : Option Addr) (nl cl : Nat) (l : List TS) (w : World) (hal : Rd tsV 2 w Al nl cl l) (hgl : ∀ s ∈ l, tsGood s) :
    Calls Try.prog 3 #[.slice Al nl cl] w fun e w' => e = .returned (.bool true) ∧ Below w.heap.size w w' := by
  go_enter Try.func3, Try.ntmps3
  by_cases hsl : (1048576 : Int) < (nl : Nat)
  · go_wp2_with fail
    refine (szTraceStepS_no _ _ _ _ _ _ hal (by omega) (by omega) hsl).mono ?_
    rintro e wx ⟨rfl, rfl⟩
    go_wp2
    go_ret
    exact ⟨rfl, (Below.refl _ _)⟩
  go_wp2_with fail
  refine (szTraceStepS_yes _ _ _ _ _ _ hal (by omega) (by omega) (by omega)).mono ?_
  rintro e wx ⟨rfl, rfl⟩
  have hnl : nl ≤ 1048576 := by omega
  have hlen := movR_len l
  have htot := movR_tot l
  go_wp2_with fail
  refine (toTraceStepS_any _ _ _ _ _ hal hnl).mono ?_
  rintro e w1 ⟨A1, c1, rfl, o1, b1⟩
  have t1 := b1
  have o1_b := o1
  go_wp2_with fail
  refine (specMoved_any _ _ _ l _ (o1.rd tsV_len)).mono ?_
  rintro e w2 ⟨⟨A2, q2, c2, hs2, rfl, o2⟩, b2⟩
  have t2 := below_trans t1 b2
  have o1 := o1.below b2
  go_wp2_with fail
  refine (toTraceStepS_any _ _ _ _ _ (hal.below t2) hnl).mono ?_
  rintro e w3 ⟨A3, c3, rfl, o3, b3⟩
  have t3 := below_trans t2 b3
  have o1 := o1.below b3
  have o2 := o2.below b3
  have o3_b := o3
  go_wp2_with fail
  refine (implMoved_any _ _ _ l _ (o3.rd tsV_len)).mono ?_
  rintro e w4 ⟨⟨A4, q4, c4, hs4, rfl, o4⟩, b4⟩
  have t4 := below_trans t3 b4
  have o1 := o1.below b4
  have o2 := o2.below b4
  have o3 := o3.below b4
  have hqg : q4 ≤ 1048577 := by rw [← o4.len]; omega
  go_wp2_with fail
  refine (eqIntSS_same _ _ _ _ _ _ _ _ _ _ o4.rd o2.rd).mono ?_
  rintro e w5 ⟨rfl, b5⟩
  have t5 := below_trans t4 b5
  have o1 := o1.below b5
  have o2 := o2.below b5
  have o3 := o3.below b5
  have o4 := o4.below b5
  go_wp2_with fail
  refine (toTraceStepS_any _ _ _ _ _ (hal.below t5) hnl).mono ?_
  rintro e w6 ⟨A5, c5, rfl, o5, b6⟩
  have t6 := below_trans t5 b6
  have o1 := o1.below b6
  have o2 := o2.below b6
  have o3 := o3.below b6
  have o4 := o4.below b6
  have o5_b := o5
  go_wp2_with fail
  refine (eqTraceStepS_same _ _ _ _ _ _ _ _ (o3.rd tsV_len) (o5.rd tsV_len)).mono ?_
  rintro e w7 ⟨rfl, b7⟩
  have t7 := below_trans t6 b7
  have o1 := o1.below b7
  have o2 := o2.below b7
  have o3 := o3.below b7
  have o4 := o4.below b7
  have o5 := o5.below b7
  go_wp2_with fail
  refine (markTraceStepS_any _ _ _ _ _ _ _ _ o3 (by omega) (by omega) (by omega) (Nat.le_trans (Nat.le_trans (Nat.le_trans (Nat.le_trans b3.size b4.size) b5.size) b6.size) b7.size)).mono ?_
  rintro e w8 ⟨rfl, o3_m, g80⟩
  have g8 := turned_of_grown g80 (fun k hk => And.intro (o3_b.lt hk).1 (o3_b.lt hk).2)
  have o1_n := o1.turned g8 (fun b hb => by have q1 := o1_b.lt hb; have q2 := b2.size; omega)
  have o2_n := o2.turned g8 (.inr (Nat.le_refl w2.heap.size))
  have o4_n := o4.turned g8 (.inl (Nat.le_refl w3.heap.size))
  have o5_n := o5.turned g8 (fun b hb => by have q1 := o5_b.lt hb; have q2 := (Nat.le_trans b4.size b5.size); omega)
  have t8 := t7.trans (g8.below t2.size t7.size)
  clear o3 o1 o2 o4 o5
  have o1 := o1_n
  have o2 := o2_n
  have o4 := o4_n
  have o5 := o5_n
  have o3 := o3_m
  clear o3_m o1_n o2_n o4_n o5_n
  go_wp2_with fail
  refine (eqIntSS_same _ _ _ _ _ _ _ _ _ _ o4.rd o2.rd).mono ?_
  rintro e w9 ⟨rfl, b9⟩
  have t9 := below_trans t8 b9
  have o1 := o1.below b9
  have o2 := o2.below b9
  have o3 := o3.below b9
  have o4 := o4.below b9
  have o5 := o5.below b9
  go_wp2_with fail
  refine (markIntSS_any _ _ _ _ _ _ _ _ _ o4 (by omega) (by omega) (by omega) (by omega) (Nat.le_trans (Nat.le_trans (Nat.le_trans (Nat.le_trans (Nat.le_trans b4.size b5.size) b6.size) b7.size) g8.size) b9.size)).mono ?_
  rintro e w10 ⟨rfl, o4_m, g10⟩
  have o1_n := o1.turned g10 (fun b hb => by have q1 := o1_b.lt hb; have q2 := (Nat.le_trans b2.size b3.size); omega)
  have o2_n := o2.turned g10 (.inr b3.size)
  have o3_n := o3.turned g10 (fun b hb => by have q1 := o3_b.lt hb; have q2 := (Nat.le_refl w3.heap.size); omega)
  have o5_n := o5.turned g10 (fun b hb => by have q1 := o5_b.lt hb; have q2 := b5.size; omega)
  have t10 := t9.trans (g10.below t3.size t9.size)
  clear o4 o1 o2 o3 o5
  have o1 := o1_n
  have o2 := o2_n
  have o3 := o3_n
  have o5 := o5_n
  have o4 := o4_m
  clear o4_m o1_n o2_n o3_n o5_n
  go_wp2_with fail
  refine (heldIntSS_any _ _ _ _ _ _ _ o4.rd (by omega) (by omega) (by omega) (by omega)).mono ?_
  rintro e w11 ⟨rfl, b11⟩
  have t11 := below_trans t10 b11
  have o1 := o1.below b11
  have o2 := o2.below b11
  have o3 := o3.below b11
  have o4 := o4.below b11
  have o5 := o5.below b11
  go_wp2_with fail
  refine (toTraceStepS_any _ _ _ _ _ (hal.below t11) hnl).mono ?_
  rintro e w12 ⟨A6, c6, rfl, o6, b12⟩
  have t12 := below_trans t11 b12
  have o1 := o1.below b12
  have o2 := o2.below b12
  have o3 := o3.below b12
  have o4 := o4.below b12
  have o5 := o5.below b12
  have o6_b := o6
  go_wp2_with fail
  refine (implMoved_any _ _ _ l _ (o6.rd tsV_len)).mono ?_
  rintro e w13 ⟨⟨A7, q7, c7, hs7, rfl, o7⟩, b13⟩
  have t13 := below_trans t12 b13
  have o1 := o1.below b13
  have o2 := o2.below b13
  have o3 := o3.below b13
  have o4 := o4.below b13
  have o5 := o5.below b13
  have o6 := o6.below b13
  go_wp2_with fail
  refine (eqIntSS_same _ _ _ _ _ _ _ _ _ _ o7.rd o2.rd).mono ?_
  rintro e w14 ⟨rfl, b14⟩
  have t14 := below_trans t13 b14
  have o1 := o1.below b14
  have o2 := o2.below b14
  have o3 := o3.below b14
  have o4 := o4.below b14
  have o5 := o5.below b14
  have o6 := o6.below b14
  have o7 := o7.below b14
  go_wp2_with fail
  refine (heldIntSS_any _ _ _ _ _ _ _ o4.rd (by omega) (by omega) (by omega) (by omega)).mono ?_
  rintro e w15 ⟨rfl, b15⟩
  have t15 := below_trans t14 b15
  have o1 := o1.below b15
  have o2 := o2.below b15
  have o3 := o3.below b15
  have o4 := o4.below b15
  have o5 := o5.below b15
  have o6 := o6.below b15
  have o7 := o7.below b15
  go_wp2
  go_ret
  exact ⟨rfl, t15⟩

set_option maxRecDepth 100000 in
theorem lifted (os : Os) (started : os.Started) (H : Type) (enc : TypeId × Value → H) :
    ReturnsInHanded {} Try.checked os 3 .any (Rows.fnExactMovedTogetherSpec.pre6 enc Try.prog Try.f3 Rows.fnExactMovedTogetherRow.domain false) (Rows.fnExactMovedTogetherSpec.post enc Try.prog Try.f3 false true false false) := by
  refine returnsInHanded_of_change (C := Try.checked) own started (by kernel_rfl) Try.func3
    (ChangeSpec.witness6 (enc := enc) (C := Try.checked) false ⟨#[], #[.slice none 0 0], []⟩ 8 (by kernel_rfl) (by kernel_rfl) (by kernel_rfl) (by kernel_rfl)) ?_
  intro W base args ds gs before hval0 hW hcnd _
  have hval : ∀ (j : Nat) t v, Try.f3.params[j]? = some t → args[j]? = some v → Value.okWide Try.prog W .any base t v := hval0
  have hW' := hW
  obtain ⟨p, q, hA0, hV, rfl, hfz, hnd⟩ := hW
  have hA : DataW.TrodAll enc Try.prog W 0 (fun _ => true) true Try.f3.params.toList args.toList ds p := hA0
  rw [Try.params3] at hA hval
  obtain ⟨v0, vs0, d0, ds0, p0, q0, hargs, rfl, rfl, h0, r0⟩ := trodAll_cons hA
  obtain ⟨rfl, rfl, rfl⟩ := trodAll_nil r0
  obtain rfl : args = #[v0] := by cases args; simp_all
  obtain ⟨rfl, rfl⟩ := trodVars_none hV
  obtain ⟨A0, n0, c0, l0, rfl, R0, G0⟩ := open_rd (ec := tsV) Try.underlying22 (by kernel_rfl) (read_ts) (by omega) tsV_len (hval 0 22 v0 rfl rfl) h0
  refine (walk A0 n0 c0 l0 W R0 G0).mono fun e W' ⟨he, hb⟩ => ?_
  subst he
  exact ⟨_, rfl, law_post laidOut (by kernel_rfl) (by kernel_rfl) Try.underlying4 rfl hW' rfl rfl rfl hb⟩

theorem over : Rows.fnExactMovedTogetherRow.holds Try.pinned (OpenSpec.ofChange Rows.fnExactMovedTogetherSpec) :=
  OpenClaim.holds_of_wide 3 Try.f3 rfl rfl rfl rfl rfl rfl rfl ⟨rfl, rfl, rfl, rfl, rfl⟩ rfl rfl rfl rfl rfl (by kernel_rfl) Try.func3 (by kernel_rfl)
    (of_decide_eq_true (by kernel_rfl)) (by unfold Func.isWrapper; rw [if_neg (of_decide_eq_false (by kernel_rfl))]; exact ⟨rfl, rfl⟩)
    (fun os started H enc _ => lifted os started H enc)

theorem proved : Rows.FnExactMovedTogetherSaid :=
  over
#print axioms proved
end Go.Proofs.Ytmmogpbbehgkiaa.fnExactMovedTogether
