/- FnExactLeadingChoice: for all arguments the program's LeadingChoice and the reference's return the same, the arguments are left as they were. No condition.
-/
import Derived.Test.YtgoaoalfljnmlaaRead
import Derived.Test.YtgoaoalfljnmlaaBalM
namespace Go.Proofs.Ytgoaoalfljnmlaa.fnExactLeadingChoice
open Go Go.ChangeShapes Go.WideShapes Go.ChangeAt Go.RowKit Go.Sort
open Go.ChangeMaps (open_string)
set_option linter.unusedVariables false

theorem own : ownKnob Try.prog.godebug = none := by kernel_rfl
theorem laidOut : laidOutB Try.prog = true := by kernel_rfl

set_option maxRecDepth 100000 in
set_option maxHeartbeats 4000000 in
theorem walk (Al : Option Addr) (nl cl : Nat) (l : List BA) (Ar : Option Addr) (nr cr : Nat) (r : List Int) (w : World) (hal : Rd baV 2 w Al nl cl l) (hgl : ∀ s ∈ l, baGood s) (har : Rd inV 1 w Ar nr cr r) (hgr : ∀ s ∈ r, in64 s) :
    Calls Try.prog 9 #[.slice Al nl cl, .slice Ar nr cr] w fun e w' => e = .returned (.bool true) ∧ Below w.heap.size w w' := by
  go_enter Try.func9, Try.ntmps9
  by_cases hsr : (1048576 : Int) < (nr : Nat)
  · go_wp2
    go_ret
    exact ⟨rfl, (Below.refl _ _)⟩
  have hnr : nr ≤ 1048576 := by omega
  go_wp2_with fail
  refine (szBallotS_any _ _ _ _ _ _ hal (by omega) (by omega) (fun s hs => (hgl s hs).2)).mono ?_
  rintro e w1 ⟨⟨r1, rfl, hr⟩, b1⟩
  have t1 := b1
  rcases hr with rfl | hr
  · go_wp2
    go_ret
    exact ⟨rfl, t1⟩
  obtain ⟨hr1a, hr1b, hln, hstl⟩ := hr
  have hnl : nl ≤ 1048576 := by have := hal.len; omega
  clear hln
  have hzl : ∀ s ∈ l, s.ch.size ≤ 1048576 := fun s hs => by have := hstl s hs; omega
  have hsz : ∀ s ∈ l, BaSz s := fun s hs => (hgl s hs).2
  go_wp2_with fail
  refine (toBallotS_any _ _ _ _ _ (hal.below t1) hnl).mono ?_
  rintro e w2 ⟨A1, c1, rfl, o1, b2⟩
  have t2 := below_trans t1 b2
  have o1_b := o1
  go_wp2_with fail
  refine (toIntS_any _ _ _ _ _ (har.below t2) hnr).mono ?_
  rintro e w3 ⟨A2, c2, rfl, o2, b3⟩
  have t3 := below_trans t2 b3
  have o1 := o1.below b3
  have o2_b := o2
  go_wp2_with fail
  refine (specLead_any _ _ _ l _ _ _ r _ (o1.rd baV_len) (o2.rd inV_len) hnl hsz).mono ?_
  rintro e w4 ⟨rfl, b4⟩
  have t4 := below_trans t3 b4
  have o1 := o1.below b4
  have o2 := o2.below b4
  go_wp2_with fail
  refine (toBallotS_any _ _ _ _ _ (hal.below t4) hnl).mono ?_
  rintro e w5 ⟨A3, c3, rfl, o3, b5⟩
  have t5 := below_trans t4 b5
  have o1 := o1.below b5
  have o2 := o2.below b5
  have o3_b := o3
  go_wp2_with fail
  refine (toIntS_any _ _ _ _ _ (har.below t5) hnr).mono ?_
  rintro e w6 ⟨A4, c4, rfl, o4, b6⟩
  have t6 := below_trans t5 b6
  have o1 := o1.below b6
  have o2 := o2.below b6
  have o3 := o3.below b6
  have o4_b := o4
  go_wp2_with fail
  refine (implLead_any _ _ _ l _ _ _ r _ (o3.rd baV_len) (o4.rd inV_len) hnl hsz).mono ?_
  rintro e w7 ⟨rfl, b7⟩
  have t7 := below_trans t6 b7
  have o1 := o1.below b7
  have o2 := o2.below b7
  have o3 := o3.below b7
  have o4 := o4.below b7
  go_wp2_with fail
  refine (toBallotS_any _ _ _ _ _ (hal.below t7) hnl).mono ?_
  rintro e w8 ⟨A5, c5, rfl, o5, b8⟩
  have t8 := below_trans t7 b8
  have o1 := o1.below b8
  have o2 := o2.below b8
  have o3 := o3.below b8
  have o4 := o4.below b8
  have o5_b := o5
  go_wp2_with fail
  refine (eqBallotS_same _ _ _ _ _ _ _ _ (o3.rd baV_len) (o5.rd baV_len)).mono ?_
  rintro e w9 ⟨rfl, b9⟩
  have t9 := below_trans t8 b9
  have o1 := o1.below b9
  have o2 := o2.below b9
  have o3 := o3.below b9
  have o4 := o4.below b9
  have o5 := o5.below b9
  go_wp2_with fail
  refine (toIntS_any _ _ _ _ _ (har.below t9) hnr).mono ?_
  rintro e w10 ⟨A6, c6, rfl, o6, b10⟩
  have t10 := below_trans t9 b10
  have o1 := o1.below b10
  have o2 := o2.below b10
  have o3 := o3.below b10
  have o4 := o4.below b10
  have o5 := o5.below b10
  have o6_b := o6
  go_wp2_with fail
  refine (eqIntS_same _ _ _ _ _ _ _ _ (o4.rd inV_len) (o6.rd inV_len)).mono ?_
  rintro e w11 ⟨rfl, b11⟩
  have t11 := below_trans t10 b11
  have o1 := o1.below b11
  have o2 := o2.below b11
  have o3 := o3.below b11
  have o4 := o4.below b11
  have o5 := o5.below b11
  have o6 := o6.below b11
  go_wp2
  go_ret
  exact ⟨rfl, t11⟩

set_option maxRecDepth 100000 in
theorem lifted (os : Os) (started : os.Started) (H : Type) (enc : TypeId × Value → H) :
    ReturnsInHanded {} Try.checked os 9 .any (Rows.fnExactLeadingChoiceSpec.pre6 enc Try.prog Try.f9 Rows.fnExactLeadingChoiceRow.domain false) (Rows.fnExactLeadingChoiceSpec.post enc Try.prog Try.f9 false true false false) := by
  refine returnsInHanded_of_change (C := Try.checked) own started (by kernel_rfl) Try.func9
    (ChangeSpec.witness6 (enc := enc) (C := Try.checked) false ⟨#[], #[.slice none 0 0, .slice none 0 0], []⟩ 8 (by kernel_rfl) (by kernel_rfl) (by kernel_rfl) (by kernel_rfl)) ?_
  intro W base args ds gs before hval0 hW hcnd _
  have hval : ∀ (j : Nat) t v, Try.f9.params[j]? = some t → args[j]? = some v → Value.okWide Try.prog W .any base t v := hval0
  have hW' := hW
  obtain ⟨p, q, hA0, hV, rfl, hfz, hnd⟩ := hW
  have hA : DataW.TrodAll enc Try.prog W 0 (fun _ => true) true Try.f9.params.toList args.toList ds p := hA0
  rw [Try.params9] at hA hval
  obtain ⟨v0, vs0, d0, ds0, p0, q0, hargs, rfl, rfl, h0, r0⟩ := trodAll_cons hA
  obtain ⟨v1, vs1, d1, ds1, p1, q1, rfl, rfl, rfl, h1, r1⟩ := trodAll_cons r0
  obtain ⟨rfl, rfl, rfl⟩ := trodAll_nil r1
  obtain rfl : args = #[v0, v1] := by cases args; simp_all
  obtain ⟨rfl, rfl⟩ := trodVars_none hV
  obtain ⟨A0, n0, c0, l0, rfl, R0, G0⟩ := open_rd (ec := baV) Try.underlying22 (by kernel_rfl) (read_ba) (by omega) baV_len (hval 0 22 v0 rfl rfl) h0
  obtain ⟨A1, n1, c1, l1, rfl, R1, G1⟩ := open_rd (ec := inV) Try.underlying29 (by kernel_rfl) (read_ints) (by omega) inV_len (hval 1 29 v1 rfl rfl) h1
  refine (walk A0 n0 c0 l0 A1 n1 c1 l1 W R0 G0 R1 G1).mono fun e W' ⟨he, hb⟩ => ?_
  subst he
  exact ⟨_, rfl, law_post laidOut (by kernel_rfl) (by kernel_rfl) Try.underlying4 rfl hW' rfl rfl rfl hb⟩

theorem over : Rows.fnExactLeadingChoiceRow.holds Try.pinned (OpenSpec.ofChange Rows.fnExactLeadingChoiceSpec) :=
  OpenClaim.holds_of_wide 9 Try.f9 rfl rfl rfl rfl rfl rfl rfl ⟨rfl, rfl, rfl, rfl, rfl⟩ rfl rfl rfl rfl rfl (by kernel_rfl) Try.func9 (by kernel_rfl)
    (of_decide_eq_true (by kernel_rfl)) (by unfold Func.isWrapper; rw [if_neg (of_decide_eq_false (by kernel_rfl))]; exact ⟨rfl, rfl⟩)
    (fun os started H enc _ => lifted os started H enc)

theorem proved : Rows.FnExactLeadingChoiceSaid :=
  over
#print axioms proved
end Go.Proofs.Ytgoaoalfljnmlaa.fnExactLeadingChoice
