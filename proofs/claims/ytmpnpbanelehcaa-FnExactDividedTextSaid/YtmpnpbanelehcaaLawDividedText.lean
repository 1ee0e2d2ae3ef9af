/- FnExactDividedText: for all arguments the program's DividedText and the reference's return the same, the arguments are left as they were, and the result's memory is shared with nothing. No condition.
-/
import Derived.Test.YtmpnpbanelehcaaRead
import Derived.Test.YtmpnpbanelehcaaFrameN
import Derived.Test.YtmpnpbanelehcaaDivI
namespace Go.Proofs.Ytmpnpbanelehcaa.fnExactDividedText
open Go Go.ChangeShapes Go.WideShapes Go.ChangeAt Go.RowKit Go.Sort
open Go.ChangeMaps (open_string)
set_option linter.unusedVariables false

theorem own : ownKnob Try.prog.godebug = none := by kernel_rfl
theorem laidOut : laidOutB Try.prog = true := by kernel_rfl

set_option maxRecDepth 100000 in
set_option maxHeartbeats 4000000 in
theorem walk (Al : Option Addr) (nl cl : Nat) (hsl : List HC) (l : List CL) (Aad : Option Addr) (nad cad : Nat) (ad : List Bool) (w : World) (hal : RdC w Al nl cl hsl l) (hgl : ∀ s ∈ l, CLgood s) (haad : Rd boV 1 w Aad nad cad ad) (hgad : ∀ s ∈ ad, True) :
    Calls Try.prog 9 #[.slice Al nl cl, .slice Aad nad cad] w fun e w' => e = .returned (.bool true) ∧ Below w.heap.size w w' := by
  go_enter Try.func9, Try.ntmps9
  by_cases hsad : (1048576 : Int) < (nad : Nat)
  · go_wp2
    go_ret
    exact ⟨rfl, (Below.refl _ _)⟩
  have hnad : nad ≤ 1048576 := by omega
  have hwl : ∀ s ∈ l, ∀ t ∈ s.ws, t.size ≤ maxLen := fun s hs => (hgl s hs).1
  go_wp2_with fail
  refine (szClauseS_any _ _ _ _ _ _ _ hal (by omega) (by omega) hwl).mono ?_
  rintro e w1 ⟨⟨r1, rfl, hr⟩, b1⟩
  have t1 := b1
  rcases hr with rfl | hr
  · go_wp2
    go_ret
    exact ⟨rfl, t1⟩
  obtain ⟨hra, hrb, hstl⟩ := hr
  have hnl : nl ≤ 1048576 := by have := hal.len; omega
  have httl : totC l ≤ 1048576 := by omega
  have hinl : ∀ s ∈ l, s.ws.length ≤ 1048576 ∧ s.ns.length ≤ 1048576 := fun s hs => by
    obtain ⟨j, hj⟩ := List.mem_iff_getElem?.1 hs
    have := totC_mem hj
    simp only [sizC] at this
    exact ⟨by omega, by omega⟩
  have hst := Lib.hid hstl
  clear hstl hrb
  have hsz : ∀ x ∈ l, ClSz x := fun x hx => (hgl x hx).1
  have hlen : (divL l ad).length ≤ 20 := divL_len l ad
  go_wp2_with fail
  refine (toClauseS_any _ _ _ _ _ _ (hal.below t1) hnl hinl).mono ?_
  rintro e w2 ⟨A1, c1, hs1, rfl, o1, b2⟩
  have t2 := below_trans t1 b2
  go_wp2_with fail
  refine (toBoolS_any _ _ _ _ _ (haad.below t2) hnad).mono ?_
  rintro e w3 ⟨A2, c2, rfl, o2, b3⟩
  have t3 := below_trans t2 b3
  have o1 := o1.below b3
  have o2_b := o2
  go_wp2_with fail
  refine (specDivided_any _ _ _ _ l _ _ _ ad _ o1.rd (o2.rd boV_len) hsz).mono ?_
  rintro e w4 ⟨⟨A3, q3, c3, rfl, o3⟩, b4⟩
  have t4 := below_trans t3 b4
  have o1 := o1.below b4
  have o2 := o2.below b4
  have o3_b := o3
  go_wp2_with fail
  refine (toClauseS_any _ _ _ _ _ _ (hal.below t4) hnl hinl).mono ?_
  rintro e w5 ⟨A4, c4, hs4, rfl, o4, b5⟩
  have t5 := below_trans t4 b5
  have o1 := o1.below b5
  have o2 := o2.below b5
  have o3 := o3.below b5
  go_wp2_with fail
  refine (toBoolS_any _ _ _ _ _ (haad.below t5) hnad).mono ?_
  rintro e w6 ⟨A5, c5, rfl, o5, b6⟩
  have t6 := below_trans t5 b6
  have o1 := o1.below b6
  have o2 := o2.below b6
  have o3 := o3.below b6
  have o4 := o4.below b6
  have o5_b := o5
  go_wp2_with fail
  refine (implDivided_any _ _ _ _ l _ _ _ ad _ o4.rd (o5.rd boV_len) hsz).mono ?_
  rintro e w7 ⟨⟨A6, q6, c6, rfl, o6⟩, b7⟩
  have t7 := below_trans t6 b7
  have o1 := o1.below b7
  have o2 := o2.below b7
  have o3 := o3.below b7
  have o4 := o4.below b7
  have o5 := o5.below b7
  have o6_b := o6
  have hqg : q6 ≤ 1048577 := by rw [← o6.len]; omega
  go_wp2_with fail
  refine (eqStringS_same _ _ _ _ _ _ _ _ (o6.rd stV_len) (o3.rd stV_len)).mono ?_
  rintro e w8 ⟨rfl, b8⟩
  have t8 := below_trans t7 b8
  have o1 := o1.below b8
  have o2 := o2.below b8
  have o3 := o3.below b8
  have o4 := o4.below b8
  have o5 := o5.below b8
  have o6 := o6.below b8
  go_wp2_with fail
  refine (toClauseS_any _ _ _ _ _ _ (hal.below t8) hnl hinl).mono ?_
  rintro e w9 ⟨A7, c7, hs7, rfl, o7, b9⟩
  have t9 := below_trans t8 b9
  have o1 := o1.below b9
  have o2 := o2.below b9
  have o3 := o3.below b9
  have o4 := o4.below b9
  have o5 := o5.below b9
  have o6 := o6.below b9
  go_wp2_with fail
  refine (eqClauseS_same _ _ _ _ _ _ _ _ _ _ o4.rd o7.rd).mono ?_
  rintro e w10 ⟨rfl, b10⟩
  have t10 := below_trans t9 b10
  have o1 := o1.below b10
  have o2 := o2.below b10
  have o3 := o3.below b10
  have o4 := o4.below b10
  have o5 := o5.below b10
  have o6 := o6.below b10
  have o7 := o7.below b10
  go_wp2_with fail
  refine (toBoolS_any _ _ _ _ _ (haad.below t10) hnad).mono ?_
  rintro e w11 ⟨A8, c8, rfl, o8, b11⟩
  have t11 := below_trans t10 b11
  have o1 := o1.below b11
  have o2 := o2.below b11
  have o3 := o3.below b11
  have o4 := o4.below b11
  have o5 := o5.below b11
  have o6 := o6.below b11
  have o7 := o7.below b11
  have o8_b := o8
  go_wp2_with fail
  refine (eqBoolS_same _ _ _ _ _ _ _ _ (o5.rd boV_len) (o8.rd boV_len)).mono ?_
  rintro e w12 ⟨rfl, b12⟩
  have t12 := below_trans t11 b12
  have o1 := o1.below b12
  have o2 := o2.below b12
  have o3 := o3.below b12
  have o4 := o4.below b12
  have o5 := o5.below b12
  have o6 := o6.below b12
  have o7 := o7.below b12
  have o8 := o8.below b12
  go_wp2_with fail
  refine (markClauseS_any _ _ _ _ _ _ _ _ _ o4 (by omega) (by omega) (by omega) (by omega) (Nat.le_trans (Nat.le_trans (Nat.le_trans (Nat.le_trans (Nat.le_trans (Nat.le_trans (Nat.le_trans b5.size b6.size) b7.size) b8.size) b9.size) b10.size) b11.size) b12.size)).mono ?_
  rintro e w13 ⟨rfl, o4_m, g13⟩
  have o1_n := o1.turned g13 (.inr (Nat.le_trans b3.size b4.size))
  have o2_n := o2.turned g13 (fun b hb => by have q1 := o2_b.lt hb; have q2 := b4.size; omega)
  have o3_n := o3.turned g13 (fun b hb => by have q1 := o3_b.lt hb; have q2 := (Nat.le_refl w4.heap.size); omega)
  have o5_n := o5.turned g13 (fun b hb => by have q1 := o5_b.lt hb; have q2 := (Nat.le_refl w5.heap.size); omega)
  have o6_n := o6.turned g13 (fun b hb => by have q1 := o6_b.lt hb; have q2 := b6.size; omega)
  have o7_n := o7.turned g13 (.inl (Nat.le_trans (Nat.le_trans b6.size b7.size) b8.size))
  have o8_n := o8.turned g13 (fun b hb => by have q1 := o8_b.lt hb; have q2 := (Nat.le_trans (Nat.le_trans (Nat.le_trans (Nat.le_trans b6.size b7.size) b8.size) b9.size) b10.size); omega)
  have t13 := t12.trans (g13.below t4.size t12.size)
  clear o4 o1 o2 o3 o5 o6 o7 o8
  have o1 := o1_n
  have o2 := o2_n
  have o3 := o3_n
  have o5 := o5_n
  have o6 := o6_n
  have o7 := o7_n
  have o8 := o8_n
  have o4 := o4_m
  clear o4_m o1_n o2_n o3_n o5_n o6_n o7_n o8_n
  go_wp2_with fail
  refine (markBoolS_any _ _ _ _ _ _ _ _ o5 (by omega) (by omega) (by omega) (Nat.le_trans (Nat.le_trans (Nat.le_trans (Nat.le_trans (Nat.le_trans (Nat.le_trans (Nat.le_trans b6.size b7.size) b8.size) b9.size) b10.size) b11.size) b12.size) g13.size)).mono ?_
  rintro e w14 ⟨rfl, o5_m, g140⟩
  have g14 := turned_of_grown g140 (fun k hk => And.intro (o5_b.lt hk).1 (o5_b.lt hk).2)
  have o1_n := o1.turned g14 (.inr (Nat.le_trans (Nat.le_trans b3.size b4.size) b5.size))
  have o2_n := o2.turned g14 (fun b hb => by have q1 := o2_b.lt hb; have q2 := (Nat.le_trans b4.size b5.size); omega)
  have o3_n := o3.turned g14 (fun b hb => by have q1 := o3_b.lt hb; have q2 := b5.size; omega)
  have o4_n := o4.turned g14 (.inr (Nat.le_refl w5.heap.size))
  have o6_n := o6.turned g14 (fun b hb => by have q1 := o6_b.lt hb; have q2 := (Nat.le_refl w6.heap.size); omega)
  have o7_n := o7.turned g14 (.inl (Nat.le_trans b7.size b8.size))
  have o8_n := o8.turned g14 (fun b hb => by have q1 := o8_b.lt hb; have q2 := (Nat.le_trans (Nat.le_trans (Nat.le_trans b7.size b8.size) b9.size) b10.size); omega)
  have t14 := t13.trans (g14.below t5.size t13.size)
  clear o5 o1 o2 o3 o4 o6 o7 o8
  have o1 := o1_n
  have o2 := o2_n
  have o3 := o3_n
  have o4 := o4_n
  have o6 := o6_n
  have o7 := o7_n
  have o8 := o8_n
  have o5 := o5_m
  clear o5_m o1_n o2_n o3_n o4_n o6_n o7_n o8_n
  go_wp2_with fail
  refine (eqStringS_same _ _ _ _ _ _ _ _ (o6.rd stV_len) (o3.rd stV_len)).mono ?_
  rintro e w15 ⟨rfl, b15⟩
  have t15 := below_trans t14 b15
  have o1 := o1.below b15
  have o2 := o2.below b15
  have o3 := o3.below b15
  have o4 := o4.below b15
  have o5 := o5.below b15
  have o6 := o6.below b15
  have o7 := o7.below b15
  have o8 := o8.below b15
  go_wp2_with fail
  refine (markStringS_any _ _ _ _ _ _ _ _ o6 (by omega) (by omega) (by omega) (Nat.le_trans (Nat.le_trans (Nat.le_trans (Nat.le_trans (Nat.le_trans (Nat.le_trans (Nat.le_trans (Nat.le_trans b7.size b8.size) b9.size) b10.size) b11.size) b12.size) g13.size) g14.size) b15.size)).mono ?_
  rintro e w16 ⟨rfl, o6_m, g160⟩
  have g16 := turned_of_grown g160 (fun k hk => And.intro (o6_b.lt hk).1 (o6_b.lt hk).2)
  have o1_n := o1.turned g16 (.inr (Nat.le_trans (Nat.le_trans (Nat.le_trans b3.size b4.size) b5.size) b6.size))
  have o2_n := o2.turned g16 (fun b hb => by have q1 := o2_b.lt hb; have q2 := (Nat.le_trans (Nat.le_trans b4.size b5.size) b6.size); omega)
  have o3_n := o3.turned g16 (fun b hb => by have q1 := o3_b.lt hb; have q2 := (Nat.le_trans b5.size b6.size); omega)
  have o4_n := o4.turned g16 (.inr b6.size)
  have o5_n := o5.turned g16 (fun b hb => by have q1 := o5_b.lt hb; have q2 := (Nat.le_refl w6.heap.size); omega)
  have o7_n := o7.turned g16 (.inl b8.size)
  have o8_n := o8.turned g16 (fun b hb => by have q1 := o8_b.lt hb; have q2 := (Nat.le_trans (Nat.le_trans b8.size b9.size) b10.size); omega)
  have t16 := t15.trans (g16.below t6.size t15.size)
  clear o6 o1 o2 o3 o4 o5 o7 o8
  have o1 := o1_n
  have o2 := o2_n
  have o3 := o3_n
  have o4 := o4_n
  have o5 := o5_n
  have o7 := o7_n
  have o8 := o8_n
  have o6 := o6_m
  clear o6_m o1_n o2_n o3_n o4_n o5_n o7_n o8_n
  go_wp2_with fail
  refine (heldStringS_any _ _ _ _ _ (o6.rd stV_len) (by omega) (by omega) (by omega)).mono ?_
  rintro e w17 ⟨rfl, b17⟩
  have t17 := below_trans t16 b17
  have o1 := o1.below b17
  have o2 := o2.below b17
  have o3 := o3.below b17
  have o4 := o4.below b17
  have o5 := o5.below b17
  have o6 := o6.below b17
  have o7 := o7.below b17
  have o8 := o8.below b17
  go_wp2_with fail
  refine (toClauseS_any _ _ _ _ _ _ (hal.below t17) hnl hinl).mono ?_
  rintro e w18 ⟨A9, c9, hs9, rfl, o9, b18⟩
  have t18 := below_trans t17 b18
  have o1 := o1.below b18
  have o2 := o2.below b18
  have o3 := o3.below b18
  have o4 := o4.below b18
  have o5 := o5.below b18
  have o6 := o6.below b18
  have o7 := o7.below b18
  have o8 := o8.below b18
  go_wp2_with fail
  refine (toBoolS_any _ _ _ _ _ (haad.below t18) hnad).mono ?_
  rintro e w19 ⟨A10, c10, rfl, o10, b19⟩
  have t19 := below_trans t18 b19
  have o1 := o1.below b19
  have o2 := o2.below b19
  have o3 := o3.below b19
  have o4 := o4.below b19
  have o5 := o5.below b19
  have o6 := o6.below b19
  have o7 := o7.below b19
  have o8 := o8.below b19
  have o9 := o9.below b19
  have o10_b := o10
  go_wp2_with fail
  refine (implDivided_any _ _ _ _ l _ _ _ ad _ o9.rd (o10.rd boV_len) hsz).mono ?_
  rintro e w20 ⟨⟨A11, q11, c11, rfl, o11⟩, b20⟩
  have t20 := below_trans t19 b20
  have o1 := o1.below b20
  have o2 := o2.below b20
  have o3 := o3.below b20
  have o4 := o4.below b20
  have o5 := o5.below b20
  have o6 := o6.below b20
  have o7 := o7.below b20
  have o8 := o8.below b20
  have o9 := o9.below b20
  have o10 := o10.below b20
  have o11_b := o11
  go_wp2_with fail
  refine (eqStringS_same _ _ _ _ _ _ _ _ (o11.rd stV_len) (o3.rd stV_len)).mono ?_
  rintro e w21 ⟨rfl, b21⟩
  have t21 := below_trans t20 b21
  have o1 := o1.below b21
  have o2 := o2.below b21
  have o3 := o3.below b21
  have o4 := o4.below b21
  have o5 := o5.below b21
  have o6 := o6.below b21
  have o7 := o7.below b21
  have o8 := o8.below b21
  have o9 := o9.below b21
  have o10 := o10.below b21
  have o11 := o11.below b21
  go_wp2_with fail
  refine (heldStringS_any _ _ _ _ _ (o6.rd stV_len) (by omega) (by omega) (by omega)).mono ?_
  rintro e w22 ⟨rfl, b22⟩
  have t22 := below_trans t21 b22
  have o1 := o1.below b22
  have o2 := o2.below b22
  have o3 := o3.below b22
  have o4 := o4.below b22
  have o5 := o5.below b22
  have o6 := o6.below b22
  have o7 := o7.below b22
  have o8 := o8.below b22
  have o9 := o9.below b22
  have o10 := o10.below b22
  have o11 := o11.below b22
  go_wp2
  go_ret
  exact ⟨rfl, t22⟩

set_option maxRecDepth 100000 in
theorem lifted (os : Os) (started : os.Started) (H : Type) (enc : TypeId × Value → H) :
    ReturnsInHanded {} Try.checked os 9 .any (Rows.fnExactDividedTextSpec.pre6 enc Try.prog Try.f9 Rows.fnExactDividedTextRow.domain false) (Rows.fnExactDividedTextSpec.post enc Try.prog Try.f9 false true false false) := by
  refine returnsInHanded_of_change (C := Try.checked) own started (by kernel_rfl) Try.func9
    (ChangeSpec.witness6 (enc := enc) (C := Try.checked) false ⟨#[], #[.slice none 0 0, .slice none 0 0], []⟩ 8 (by kernel_rfl) (by kernel_rfl) (by kernel_rfl) (by kernel_rfl)) ?_
  intro W base args ds gs before hval0 hW hcnd _
  have hval : ∀ (j : Nat) t v, Try.f9.params[j]? = some t → args[j]? = some v → Value.okWide Try.prog W .any base t v := hval0
  have hW' := hW
  obtain ⟨p, q, hA0, hV, rfl, hfz, hnd⟩ := hW
  have hA : DataW.TrodAll enc Try.prog W 0 (fun _ => true) true Try.f9.params.toList args.toList ds p := hA0
  rw [Try.params9] at hA hval
  obtain ⟨v0, vs0, d0, ds0, p0, q0, hargs, rfl, rfl, h0, r0⟩ := trodAll_cons hA
  obtain ⟨v1, vs1, d1, ds1, p1, q1, rfl, rfl, rfl, h1, r1⟩ := trodAll_cons r0
  obtain ⟨rfl, rfl, rfl⟩ := trodAll_nil r1
  obtain rfl : args = #[v0, v1] := by cases args; simp_all
  obtain ⟨rfl, rfl⟩ := trodVars_none hV
  obtain ⟨A0, n0, c0, hs0, l0, rfl, R0, G0⟩ := open_cls (hval 0 22 v0 rfl rfl) h0
  obtain ⟨A1, n1, c1, l1, rfl, R1, G1⟩ := open_rd (ec := boV) Try.underlying41 (by kernel_rfl) (read_bools) (by omega) boV_len (hval 1 41 v1 rfl rfl) h1
  refine (walk A0 n0 c0 hs0 l0 A1 n1 c1 l1 W R0 G0 R1 G1).mono fun e W' ⟨he, hb⟩ => ?_
  subst he
  exact ⟨_, rfl, law_post laidOut (by kernel_rfl) (by kernel_rfl) Try.underlying4 rfl hW' rfl rfl rfl hb⟩

theorem over : Rows.fnExactDividedTextRow.holds Try.pinned (OpenSpec.ofChange Rows.fnExactDividedTextSpec) :=
  OpenClaim.holds_of_wide 9 Try.f9 rfl rfl rfl rfl rfl rfl rfl ⟨rfl, rfl, rfl, rfl, rfl⟩ rfl rfl rfl rfl rfl (by kernel_rfl) Try.func9 (by kernel_rfl)
    (of_decide_eq_true (by kernel_rfl)) (by unfold Func.isWrapper; rw [if_neg (of_decide_eq_false (by kernel_rfl))]; exact ⟨rfl, rfl⟩)
    (fun os started H enc _ => lifted os started H enc)

theorem proved : Rows.FnExactDividedTextSaid :=
  over
#print axioms proved
end Go.Proofs.Ytmpnpbanelehcaa.fnExactDividedText
