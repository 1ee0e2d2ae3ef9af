/- FnExactSortBox: for all arguments the program's SortBox and the reference's return the same, the arguments are left as they were, and the result's memory is shared with nothing. No condition.
-/
import Derived.Test.YtcockjjilcapaaaRead
import Derived.Test.YtcockjjilcapaaaBalS
namespace Go.Proofs.Ytcockjjilcapaaa.fnExactSortBox
open Go Go.ChangeShapes Go.WideShapes Go.ChangeAt Go.RowKit Go.Sort
open Go.ChangeMaps (open_string)
set_option linter.unusedVariables false

theorem own : ownKnob Try.prog.godebug = none := by kernel_rfl
theorem laidOut : laidOutB Try.prog = true := by kernel_rfl

set_option maxRecDepth 100000 in
set_option maxHeartbeats 4000000 in
theorem walk (Al : Option Addr) (nl cl : Nat) (l : List BA) (w : World) (hal : Rd baV 2 w Al nl cl l) (hgl : ∀ s ∈ l, baGood s) :
    Calls Try.prog 3 #[.slice Al nl cl] w fun e w' => e = .returned (.bool true) ∧ Below w.heap.size w w' := by
  go_enter Try.func3, Try.ntmps3
  go_wp2_with fail
  refine (szBallotS_any _ _ _ _ _ _ hal (by omega) (by omega) (fun s hs => (hgl s hs).2)).mono ?_
  rintro e w1 ⟨⟨r1, rfl, hr⟩, b1⟩
  have t1 := b1
  rcases hr with rfl | hr
  · go_wp2
    go_ret
    exact ⟨rfl, t1⟩
  obtain ⟨hr1a, hr1b, hln, hstl⟩ := hr
  have hnl : nl ≤ 1048576 := by have := hal.len; omega
  clear hln
  have hzl : ∀ s ∈ l, s.ch.size ≤ 1048576 := fun s hs => by have := hstl s hs; omega
  have hsz : ∀ s ∈ l, BaSz s := fun s hs => (hgl s hs).2
  have hlen : (srtL l).length ≤ nl := by rw [← hal.len]; exact srtL_len l
  go_wp2_with fail
  refine (toBallotS_any _ _ _ _ _ (hal.below t1) hnl).mono ?_
  rintro e w2 ⟨A1, c1, rfl, o1, b2⟩
  have t2 := below_trans t1 b2
  have o1_b := o1
  go_wp2_with fail
  refine (specSortBox_any _ _ _ l _ (o1.rd baV_len) hsz).mono ?_
  rintro e w3 ⟨⟨A2, q2, c2, rfl, o2⟩, b3⟩
  have t3 := below_trans t2 b3
  have o1 := o1.below b3
  have o2_b := o2
  go_wp2_with fail
  refine (toBallotS_any _ _ _ _ _ (hal.below t3) hnl).mono ?_
  rintro e w4 ⟨A3, c3, rfl, o3, b4⟩
  have t4 := below_trans t3 b4
  have o1 := o1.below b4
  have o2 := o2.below b4
  have o3_b := o3
  go_wp2_with fail
  refine (implSortBox_any _ _ _ l _ (o3.rd baV_len) hsz).mono ?_
  rintro e w5 ⟨⟨A4, q4, c4, rfl, o4⟩, b5⟩
  have t5 := below_trans t4 b5
  have o1 := o1.below b5
  have o2 := o2.below b5
  have o3 := o3.below b5
  have o4_b := o4
  have hqg : q4 ≤ 1048577 := by rw [← o4.len]; omega
  go_wp2_with fail
  refine (eqBallotS_same _ _ _ _ _ _ _ _ (o4.rd baV_len) (o2.rd baV_len)).mono ?_
  rintro e w6 ⟨rfl, b6⟩
  have t6 := below_trans t5 b6
  have o1 := o1.below b6
  have o2 := o2.below b6
  have o3 := o3.below b6
  have o4 := o4.below b6
  go_wp2_with fail
  refine (toBallotS_any _ _ _ _ _ (hal.below t6) hnl).mono ?_
  rintro e w7 ⟨A5, c5, rfl, o5, b7⟩
  have t7 := below_trans t6 b7
  have o1 := o1.below b7
  have o2 := o2.below b7
  have o3 := o3.below b7
  have o4 := o4.below b7
  have o5_b := o5
  go_wp2_with fail
  refine (eqBallotS_same _ _ _ _ _ _ _ _ (o3.rd baV_len) (o5.rd baV_len)).mono ?_
  rintro e w8 ⟨rfl, b8⟩
  have t8 := below_trans t7 b8
  have o1 := o1.below b8
  have o2 := o2.below b8
  have o3 := o3.below b8
  have o4 := o4.below b8
  have o5 := o5.below b8
  go_wp2_with fail
  refine (markBallotS_any _ _ _ _ _ _ _ _ o3 (by omega) (by omega) (by omega) (Nat.le_trans (Nat.le_trans (Nat.le_trans (Nat.le_trans b4.size b5.size) b6.size) b7.size) b8.size)).mono ?_
  rintro e w9 ⟨rfl, o3_m, g9⟩
  have o1_n := o1.grown g9 (Own.apart' o1_b o3 b3.size)
  have o2_n := o2.grown g9 (Own.apart' o2_b o3 (Nat.le_refl _))
  have o4_n := o4.grown g9 (Own.apart o3_b o4 (Nat.le_refl _))
  have o5_n := o5.grown g9 (Own.apart o3_b o5 (Nat.le_trans b5.size b6.size))
  have t9 := t8.trans (o3.below_of g9 t3.size t8.size)
  clear o3 o1 o2 o4 o5
  have o1 := o1_n
  have o2 := o2_n
  have o4 := o4_n
  have o5 := o5_n
  have o3 := o3_m
  clear o3_m o1_n o2_n o4_n o5_n
  go_wp2_with fail
  refine (eqBallotS_same _ _ _ _ _ _ _ _ (o4.rd baV_len) (o2.rd baV_len)).mono ?_
  rintro e w10 ⟨rfl, b10⟩
  have t10 := below_trans t9 b10
  have o1 := o1.below b10
  have o2 := o2.below b10
  have o3 := o3.below b10
  have o4 := o4.below b10
  have o5 := o5.below b10
  go_wp2_with fail
  refine (markBallotS_any _ _ _ _ _ _ _ _ o4 (by omega) (by omega) (by omega) (Nat.le_trans (Nat.le_trans (Nat.le_trans (Nat.le_trans (Nat.le_trans b5.size b6.size) b7.size) b8.size) g9.size) b10.size)).mono ?_
  rintro e w11 ⟨rfl, o4_m, g11⟩
  have o1_n := o1.grown g11 (Own.apart' o1_b o4 (Nat.le_trans b3.size b4.size))
  have o2_n := o2.grown g11 (Own.apart' o2_b o4 b4.size)
  have o3_n := o3.grown g11 (Own.apart' o3_b o4 (Nat.le_refl _))
  have o5_n := o5.grown g11 (Own.apart o4_b o5 b6.size)
  have t11 := t10.trans (o4.below_of g11 t4.size t10.size)
  clear o4 o1 o2 o3 o5
  have o1 := o1_n
  have o2 := o2_n
  have o3 := o3_n
  have o5 := o5_n
  have o4 := o4_m
  clear o4_m o1_n o2_n o3_n o5_n
  go_wp2_with fail
  refine (heldBallotS_any _ _ _ _ _ (o4.rd baV_len) (by omega) (by omega) (by omega)).mono ?_
  rintro e w12 ⟨rfl, b12⟩
  have t12 := below_trans t11 b12
  have o1 := o1.below b12
  have o2 := o2.below b12
  have o3 := o3.below b12
  have o4 := o4.below b12
  have o5 := o5.below b12
  go_wp2_with fail
  refine (toBallotS_any _ _ _ _ _ (hal.below t12) hnl).mono ?_
  rintro e w13 ⟨A6, c6, rfl, o6, b13⟩
  have t13 := below_trans t12 b13
  have o1 := o1.below b13
  have o2 := o2.below b13
  have o3 := o3.below b13
  have o4 := o4.below b13
  have o5 := o5.below b13
  have o6_b := o6
  go_wp2_with fail
  refine (implSortBox_any _ _ _ l _ (o6.rd baV_len) hsz).mono ?_
  rintro e w14 ⟨⟨A7, q7, c7, rfl, o7⟩, b14⟩
  have t14 := below_trans t13 b14
  have o1 := o1.below b14
  have o2 := o2.below b14
  have o3 := o3.below b14
  have o4 := o4.below b14
  have o5 := o5.below b14
  have o6 := o6.below b14
  have o7_b := o7
  go_wp2_with fail
  refine (eqBallotS_same _ _ _ _ _ _ _ _ (o7.rd baV_len) (o2.rd baV_len)).mono ?_
  rintro e w15 ⟨rfl, b15⟩
  have t15 := below_trans t14 b15
  have o1 := o1.below b15
  have o2 := o2.below b15
  have o3 := o3.below b15
  have o4 := o4.below b15
  have o5 := o5.below b15
  have o6 := o6.below b15
  have o7 := o7.below b15
  go_wp2_with fail
  refine (heldBallotS_any _ _ _ _ _ (o4.rd baV_len) (by omega) (by omega) (by omega)).mono ?_
  rintro e w16 ⟨rfl, b16⟩
  have t16 := below_trans t15 b16
  have o1 := o1.below b16
  have o2 := o2.below b16
  have o3 := o3.below b16
  have o4 := o4.below b16
  have o5 := o5.below b16
  have o6 := o6.below b16
  have o7 := o7.below b16
  go_wp2
  go_ret
  exact ⟨rfl, t16⟩

set_option maxRecDepth 100000 in
theorem lifted (os : Os) (started : os.Started) (H : Type) (enc : TypeId × Value → H) :
    ReturnsInHanded {} Try.checked os 3 .any (Rows.fnExactSortBoxSpec.pre6 enc Try.prog Try.f3 Rows.fnExactSortBoxRow.domain false) (Rows.fnExactSortBoxSpec.post enc Try.prog Try.f3 false true false false) := by
  refine returnsInHanded_of_change (C := Try.checked) own started (by kernel_rfl) Try.func3
    (ChangeSpec.witness6 (enc := enc) (C := Try.checked) false ⟨#[], #[.slice none 0 0], []⟩ 8 (by kernel_rfl) (by kernel_rfl) (by kernel_rfl) (by kernel_rfl)) ?_
  intro W base args ds gs before hval0 hW hcnd _
  have hval : ∀ (j : Nat) t v, Try.f3.params[j]? = some t → args[j]? = some v → Value.okWide Try.prog W .any base t v := hval0
  have hW' := hW
  obtain ⟨p, q, hA0, hV, rfl, hfz, hnd⟩ := hW
  have hA : DataW.TrodAll enc Try.prog W 0 (fun _ => true) true Try.f3.params.toList args.toList ds p := hA0
  rw [Try.params3] at hA hval
  obtain ⟨v0, vs0, d0, ds0, p0, q0, hargs, rfl, rfl, h0, r0⟩ := trodAll_cons hA
  obtain ⟨rfl, rfl, rfl⟩ := trodAll_nil r0
  obtain rfl : args = #[v0] := by cases args; simp_all
  obtain ⟨rfl, rfl⟩ := trodVars_none hV
  obtain ⟨A0, n0, c0, l0, rfl, R0, G0⟩ := open_rd (ec := baV) Try.underlying22 (by kernel_rfl) (read_ba) (by omega) baV_len (hval 0 22 v0 rfl rfl) h0
  refine (walk A0 n0 c0 l0 W R0 G0).mono fun e W' ⟨he, hb⟩ => ?_
  subst he
  exact ⟨_, rfl, law_post laidOut (by kernel_rfl) (by kernel_rfl) Try.underlying4 rfl hW' rfl rfl rfl hb⟩

theorem over : Rows.fnExactSortBoxRow.holds Try.pinned (OpenSpec.ofChange Rows.fnExactSortBoxSpec) :=
  OpenClaim.holds_of_wide 3 Try.f3 rfl rfl rfl rfl rfl rfl rfl ⟨rfl, rfl, rfl, rfl, rfl⟩ rfl rfl rfl rfl rfl (by kernel_rfl) Try.func3 (by kernel_rfl)
    (of_decide_eq_true (by kernel_rfl)) (by unfold Func.isWrapper; rw [if_neg (of_decide_eq_false (by kernel_rfl))]; exact ⟨rfl, rfl⟩)
    (fun os started H enc _ => lifted os started H enc)

theorem proved : Rows.FnExactSortBoxSaid :=
  over
#print axioms proved
end Go.Proofs.Ytcockjjilcapaaa.fnExactSortBox
