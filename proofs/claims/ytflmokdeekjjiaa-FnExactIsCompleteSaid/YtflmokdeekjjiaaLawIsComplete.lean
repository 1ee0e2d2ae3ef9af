/- FnExactIsComplete: for all arguments the program's IsComplete and the reference's return the same, the arguments are left as they were. No condition.
-/
import Derived.Test.YtflmokdeekjjiaaRead
import Derived.Test.YtflmokdeekjjiaaMinC
namespace Go.Proofs.Ytflmokdeekjjiaa.fnExactIsComplete
open Go Go.ChangeShapes Go.WideShapes Go.ChangeAt Go.RowKit Go.Sort
open Go.ChangeMaps (open_string)
set_option linter.unusedVariables false

theorem own : ownKnob Try.prog.godebug = none := by kernel_rfl
theorem laidOut : laidOutB Try.prog = true := by kernel_rfl

set_option maxRecDepth 100000 in
set_option maxHeartbeats 4000000 in
theorem walk (Al : Option Addr) (nl cl : Nat) (l : List EN) (w : World) (hal : Rd enV 7 w Al nl cl l) (hgl : ∀ s ∈ l, enGood s) :
    Calls Try.prog 4 #[.slice Al nl cl] w fun e w' => e = .returned (.bool true) ∧ Below w.heap.size w w' := by
  go_enter Try.func4, Try.ntmps4
  go_wp2_with fail
  refine (szEntryS_any _ _ _ _ _ _ hal (by omega) (by omega) (fun s hs => ⟨(hgl s hs).2.1, (hgl s hs).2.2.1⟩)).mono ?_
  rintro e w1 ⟨⟨r1, rfl, hr⟩, b1⟩
  have t1 := b1
  rcases hr with rfl | hr
  · go_wp2
    go_ret
    exact ⟨rfl, t1⟩
  obtain ⟨hr1a, hr1b, hln, hstl⟩ := hr
  have hnl : nl ≤ 1048576 := by have := hal.len; omega
  clear hln
  have hzl : ∀ s ∈ l, s.who.size ≤ 1048576 ∧ s.mo.size ≤ 1048576 := fun s hs => by have := hstl s hs; omega
  have hsz : ∀ s ∈ l, EnSz s := fun s hs => ⟨(hgl s hs).2.1, (hgl s hs).2.2.1⟩
  go_wp2_with fail
  refine (toEntryS_any _ _ _ _ _ (hal.below t1) hnl).mono ?_
  rintro e w2 ⟨A1, c1, rfl, o1, b2⟩
  have t2 := below_trans t1 b2
  have o1_b := o1
  go_wp2_with fail
  refine (specComplete_any _ _ _ _ _ (o1.rd enV_len) hsz).mono ?_
  rintro e w3 ⟨rfl, b3⟩
  have t3 := below_trans t2 b3
  have o1 := o1.below b3
  go_wp2_with fail
  refine (toEntryS_any _ _ _ _ _ (hal.below t3) hnl).mono ?_
  rintro e w4 ⟨A2, c2, rfl, o2, b4⟩
  have t4 := below_trans t3 b4
  have o1 := o1.below b4
  have o2_b := o2
  go_wp2_with fail
  refine (implComplete_any _ _ _ _ _ (o2.rd enV_len) hsz).mono ?_
  rintro e w5 ⟨rfl, b5⟩
  have t5 := below_trans t4 b5
  have o1 := o1.below b5
  have o2 := o2.below b5
  go_wp2_with fail
  refine (toEntryS_any _ _ _ _ _ (hal.below t5) hnl).mono ?_
  rintro e w6 ⟨A3, c3, rfl, o3, b6⟩
  have t6 := below_trans t5 b6
  have o1 := o1.below b6
  have o2 := o2.below b6
  have o3_b := o3
  go_wp2_with fail
  refine (eqEntryS_same _ _ _ _ _ _ _ _ (o2.rd enV_len) (o3.rd enV_len)).mono ?_
  rintro e w7 ⟨rfl, b7⟩
  have t7 := below_trans t6 b7
  have o1 := o1.below b7
  have o2 := o2.below b7
  have o3 := o3.below b7
  go_wp2
  go_ret
  exact ⟨rfl, t7⟩

set_option maxRecDepth 100000 in
theorem lifted (os : Os) (started : os.Started) (H : Type) (enc : TypeId × Value → H) :
    ReturnsInHanded {} Try.checked os 4 .any (Rows.fnExactIsCompleteSpec.pre6 enc Try.prog Try.f4 Rows.fnExactIsCompleteRow.domain false) (Rows.fnExactIsCompleteSpec.post enc Try.prog Try.f4 false true false false) := by
  refine returnsInHanded_of_change (C := Try.checked) own started (by kernel_rfl) Try.func4
    (ChangeSpec.witness6 (enc := enc) (C := Try.checked) false ⟨#[], #[.slice none 0 0], []⟩ 8 (by kernel_rfl) (by kernel_rfl) (by kernel_rfl) (by kernel_rfl)) ?_
  intro W base args ds gs before hval0 hW hcnd _
  have hval : ∀ (j : Nat) t v, Try.f4.params[j]? = some t → args[j]? = some v → Value.okWide Try.prog W .any base t v := hval0
  have hW' := hW
  obtain ⟨p, q, hA0, hV, rfl, hfz, hnd⟩ := hW
  have hA : DataW.TrodAll enc Try.prog W 0 (fun _ => true) true Try.f4.params.toList args.toList ds p := hA0
  rw [Try.params4] at hA hval
  obtain ⟨v0, vs0, d0, ds0, p0, q0, hargs, rfl, rfl, h0, r0⟩ := trodAll_cons hA
  obtain ⟨rfl, rfl, rfl⟩ := trodAll_nil r0
  obtain rfl : args = #[v0] := by cases args; simp_all
  obtain ⟨rfl, rfl⟩ := trodVars_none hV
  obtain ⟨A0, n0, c0, l0, rfl, R0, G0⟩ := open_rd (ec := enV) Try.underlying33 (by kernel_rfl) (read_en) (by omega) enV_len (hval 0 33 v0 rfl rfl) h0
  refine (walk A0 n0 c0 l0 W R0 G0).mono fun e W' ⟨he, hb⟩ => ?_
  subst he
  exact ⟨_, rfl, law_post laidOut (by kernel_rfl) (by kernel_rfl) Try.underlying4 rfl hW' rfl rfl rfl hb⟩

theorem over : Rows.fnExactIsCompleteRow.holds Try.pinned (OpenSpec.ofChange Rows.fnExactIsCompleteSpec) :=
  OpenClaim.holds_of_wide 4 Try.f4 rfl rfl rfl rfl rfl rfl rfl ⟨rfl, rfl, rfl, rfl, rfl⟩ rfl rfl rfl rfl rfl (by kernel_rfl) Try.func4 (by kernel_rfl)
    (of_decide_eq_true (by kernel_rfl)) (by unfold Func.isWrapper; rw [if_neg (of_decide_eq_false (by kernel_rfl))]; exact ⟨rfl, rfl⟩)
    (fun os started H enc _ => lifted os started H enc)

theorem proved : Rows.FnExactIsCompleteSaid :=
  over
#print axioms proved
end Go.Proofs.Ytflmokdeekjjiaa.fnExactIsComplete
