/- FnExactTraceText: for every list of steps the program's TraceText and the reference's return the same, and the list is left as it was. No condition.
-/
import Derived.Test.YtndhbkpbopgfdaaDoorRead
import Derived.Test.YtndhbkpbopgfdaaDoorCards
import Derived.Test.YtndhbkpbopgfdaaDoorTie
import Derived.ProofKit
import Derived.LaidMore
import Derived.OpenShut
import Derived.Stop.Joined
import Derived.SevenTiedAt
import Derived.Test.YtndhbkpbopgfdaaDoorTraT
namespace Go.Proofs.YtndhbkpbopgfdaaDoor.fnExactTraceText
open Go Go.ChangeShapes Go.WideShapes Go.ChangeAt Go.RowKit Go.Sort
open Go.ChangeMaps (open_string)
set_option linter.unusedVariables false

theorem own : ownKnob Tryd.prog.godebug = none := by kernel_rfl
theorem laidOut : laidOutB Tryd.prog = true := by kernel_rfl

set_option maxRecDepth 100000 in
set_option maxHeartbeats 4000000 in
theorem walk (A : Option Addr) (n c : Nat) (l : List TS) (w : World) (ha : Rd tsV 2 w A n c l) (hg : ∀ x ∈ l, tsGood x) :
    Calls Tryd.prog 3 #[.slice A n c] w fun e w' => e = .returned (.bool true) ∧ Below w.heap.size w w' := by
  by_cases hs : (1048576 : Int) < n
  · go_enter Tryd.func3, Tryd.ntmps3
    go_wp2_with fail
    refine (szTraceStepS_no _ _ _ _ _ _ ha (by omega) (by omega) hs).mono ?_
    rintro e w1 ⟨rfl, rfl⟩
    go_wp2
    go_ret
    exact ⟨rfl, Below.refl _ _⟩
  · have hn : n ≤ 1048576 := by omega
    go_enter Tryd.func3, Tryd.ntmps3
    go_wp2_with fail
    refine (szTraceStepS_yes _ _ _ _ _ _ ha (by omega) (by omega) (by omega)).mono ?_
    rintro e wx ⟨rfl, rfl⟩
    go_wp2_with fail
    refine (toTraceStepS_any _ _ _ _ _ ha hn).mono ?_
    rintro e w1 ⟨A1, c1, rfl, o1, b1⟩
    have t1 := b1
    have o1_b := o1
    go_wp2_with fail
    refine (specTraceText_any _ _ _ _ _ (o1.rd tsV_len)).mono ?_
    rintro e w2 ⟨rfl, b2⟩
    have t2 := below_trans t1 b2
    have o1 := o1.below b2
    go_wp2_with fail
    refine (toTraceStepS_any _ _ _ _ _ (ha.below t2) hn).mono ?_
    rintro e w3 ⟨A2, c2, rfl, o2, b3⟩
    have t3 := below_trans t2 b3
    have o1 := o1.below b3
    have o2_b := o2
    go_wp2_with fail
    refine (implTraceText_any _ _ _ _ _ (o2.rd tsV_len)).mono ?_
    rintro e w4 ⟨rfl, b4⟩
    have t4 := below_trans t3 b4
    have o1 := o1.below b4
    have o2 := o2.below b4
    go_wp2_with fail
    refine (toTraceStepS_any _ _ _ _ _ (ha.below t4) hn).mono ?_
    rintro e w5 ⟨A3, c3, rfl, o3, b5⟩
    have t5 := below_trans t4 b5
    have o1 := o1.below b5
    have o2 := o2.below b5
    have o3_b := o3
    go_wp2_with fail
    refine (eqTraceStepS_same _ _ _ _ _ _ _ _ (o2.rd tsV_len) (o3.rd tsV_len)).mono ?_
    rintro e w6 ⟨rfl, b6⟩
    have t6 := below_trans t5 b6
    have o1 := o1.below b6
    have o2 := o2.below b6
    have o3 := o3.below b6
    go_wp2
    go_ret
    exact ⟨rfl, t6⟩

set_option maxRecDepth 100000 in
theorem door_met (os : Os) (args : Array Value) : laidMetH Tryd.prog Rows.fnExactTraceTextRow.laid ((World.doorLaid Tryd.prog 72 os).forCall (fun _ _ => 0) ⟨#[], args, []⟩).memory :=
  laidMetH_of_parts3 (fuel := 8) (laidMet_of_run' 8 (by kernel_rfl) (by kernel_rfl)) (by kernel_rfl) (by kernel_rfl)

set_option maxRecDepth 100000 in
theorem lifted (os : Os) (started : os.Started) (H : Type) (enc : TypeId × Value → H) :
    ReturnsInHanded {} Tryd.checked os 3 .any (fun w args => (Rows.fnExactTraceTextSpec.pre enc Tryd.prog Tryd.f3 [] false w args ∧ laidMetH Tryd.prog Rows.fnExactTraceTextRow.laid w) ∧ sizedMet enc Tryd.prog Tryd.f3 (OpenSpec.ofChange Rows.fnExactTraceTextSpec) false w args)
      (Rows.fnExactTraceTextSpec.post enc Tryd.prog Tryd.f3 false true false false) := by
  refine returnsInHanded_of_change_and (C := Tryd.checked) (X := fun w _ => laidMetH Tryd.prog Rows.fnExactTraceTextRow.laid w) (fun _ _ _ hh h => h.of_heap hh) own started (by kernel_rfl) Tryd.func3
    (ChangeSpec.witness_shaped (enc := enc) (C := Tryd.checked) (os := os) (X := fun w _ => laidMetH Tryd.prog Rows.fnExactTraceTextRow.laid w) false (World.doorLaid Tryd.prog 72 os) #[.slice none 0 0] 8 rfl (World.shaped_of_RefB (by kernel_rfl) (by kernel_rfl)) (by kernel_rfl) (by kernel_rfl) (by kernel_rfl) (door_met os _)) ?_
  intro W base args ds gs before hval0 hW _ _ hL _
  have hval : ∀ (j : Nat) t v, Tryd.f3.params[j]? = some t → args[j]? = some v → Value.okWide Tryd.prog W .any base t v := hval0
  have hW' := hW
  obtain ⟨p, q, hA0, hV, rfl, hfz, hnd⟩ := hW
  have hA : DataW.TrodAll enc Tryd.prog W 0 (fun _ => true) true Tryd.f3.params.toList args.toList ds p := hA0
  rw [Tryd.params3] at hA hval
  obtain ⟨v0, vs0, d0, ds0, p0, q0, hargs, rfl, rfl, h0, r0⟩ := trodAll_cons hA
  obtain ⟨rfl, rfl, rfl⟩ := trodAll_nil r0
  obtain rfl : args = #[v0] := by cases args; simp_all
  obtain ⟨rfl, rfl⟩ := trodVars_none hV
  obtain ⟨A0, n0, c0, l0, rfl, R0, G0⟩ := open_rd (ec := tsV) Tryd.underlying22 (by kernel_rfl) (read_ts) (by omega) tsV_len (hval 0 22 v0 rfl rfl) h0
  refine (walk A0 n0 c0 l0 W R0 G0).mono fun e W' ⟨he, hb⟩ => ?_
  subst he
  exact ⟨_, rfl, law_post laidOut (by kernel_rfl) (by kernel_rfl) Tryd.underlying4 rfl hW' rfl rfl rfl hb⟩

theorem over : Rows.fnExactTraceTextRow.holds Tryd.pinned (OpenSpec.ofChange Rows.fnExactTraceTextSpec) :=
  OpenClaim.holds_of_wide 3 Tryd.f3 rfl rfl rfl rfl rfl rfl rfl ⟨rfl, rfl, rfl, rfl, rfl⟩ rfl rfl rfl rfl rfl (by kernel_rfl) Tryd.func3 (by kernel_rfl)
    (of_decide_eq_true (by kernel_rfl)) (by unfold Func.isWrapper; rw [if_neg (of_decide_eq_false (by kernel_rfl))]; exact ⟨rfl, rfl⟩)
    (fun os started H enc _ => lifted os started H enc)

theorem proved : Rows.FnExactTraceTextCardSaid :=
  Claim7.holds_tied_plain_at .later [] [.data, .data, .data] true (true, "2a9461f793c07ae2a07c2a09dc7fc33a64355e716c2b751d859154b656fb3e0a") true
    over (fun _ h => by cases h) (by kernel_rfl) (fun _ h => by cases h) fnExactTraceText_row_tie rfl ⟨rfl, rfl⟩ (by kernel_rfl) rfl
    (fun f fn hf hfn => by
      obtain rfl : f = 3 := Option.some.inj ((show Tryd.prog.funcNamed "loop.example/g00909/laws.FnExactTraceText" = some 3 by kernel_rfl).symm.trans hf) |>.symm
      obtain rfl : fn = Tryd.f3 := (Option.some.inj (Tryd.func3.symm.trans hfn)).symm
      exact ⟨by kernel_rfl, fun j t ht => by
        have hall : (Tryd.f3.params.toList.all fun u => !Tryd.prog.wantsStandIn u) = true := by kernel_rfl
        have hm : t ∈ Tryd.f3.params.toList := Array.mem_toList_iff.2 (Array.mem_of_getElem? ht)
        exact (show Tryd.prog.wantsStandIn t = false by simpa using List.all_eq_true.1 hall t hm)⟩)
    (by kernel_rfl)
#print axioms proved
end Go.Proofs.YtndhbkpbopgfdaaDoor.fnExactTraceText
