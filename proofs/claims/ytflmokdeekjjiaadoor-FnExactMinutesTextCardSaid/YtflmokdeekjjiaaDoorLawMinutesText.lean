/- FnExactMinutesText: for all minutes the program's MinutesText and the reference's return the same, and the list is left as it was. No condition.
-/
import Derived.Test.YtflmokdeekjjiaaDoorRead
import Derived.Test.YtflmokdeekjjiaaDoorCards
import Derived.Test.YtflmokdeekjjiaaDoorTie
import Derived.ProofKit
import Derived.LaidMore
import Derived.OpenShut
import Derived.Stop.Joined
import Derived.SevenTiedAt
import Derived.Test.YtflmokdeekjjiaaDoorMinY
namespace Go.Proofs.YtflmokdeekjjiaaDoor.fnExactMinutesText
open Go Go.ChangeShapes Go.WideShapes Go.ChangeAt Go.RowKit Go.Sort
open Go.ChangeMaps (open_string)
set_option linter.unusedVariables false

theorem own : ownKnob Tryd.prog.godebug = none := by kernel_rfl
theorem laidOut : laidOutB Tryd.prog = true := by kernel_rfl

set_option maxRecDepth 100000 in
set_option maxHeartbeats 4000000 in
theorem walk (Al : Option Addr) (nl cl : Nat) (l : List EN) (w : World) (hT : Lib.TabIs Tryd.prog w "internal/strconv.uint64pow10" .u64 Lib.pow10Tab) (hal : Rd enV 7 w Al nl cl l) (hgl : ∀ s ∈ l, enGood s) :
    Calls Tryd.prog 5 #[.slice Al nl cl] w fun e w' => e = .returned (.bool true) ∧ Below w.heap.size w w' := by
  go_enter Tryd.func5, Tryd.ntmps5
  go_wp2_with fail
  refine (szEntryS_any _ _ _ _ _ _ hal (by omega) (by omega) (fun s hs => ⟨(hgl s hs).2.1, (hgl s hs).2.2.1⟩)).mono ?_
  rintro e w1 ⟨⟨r1, rfl, hr⟩, b1⟩
  have t1 := b1
  rcases hr with rfl | hr
  · go_wp2
    go_ret
    exact ⟨rfl, t1⟩
  obtain ⟨hr1a, hr1b, hln, hstl⟩ := hr
  have hnl : nl ≤ 1048576 := by have := hal.len; omega
  clear hln
  have hzl : ∀ s ∈ l, s.who.size ≤ 1048576 ∧ s.mo.size ≤ 1048576 := fun s hs => by have := hstl s hs; omega
  have hsz : ∀ s ∈ l, EnSz s := fun s hs => ⟨(hgl s hs).2.1, (hgl s hs).2.2.1⟩
  go_wp2_with fail
  refine (toEntryS_any _ _ _ _ _ (hal.below t1) hnl).mono ?_
  rintro e w2 ⟨A1, c1, rfl, o1, b2⟩
  have t2 := below_trans t1 b2
  have o1_b := o1
  go_wp2_with fail
  refine (specMinutesText_any _ _ _ _ _ (o1.rd enV_len) hsz).mono ?_
  rintro e w3 ⟨rfl, b3⟩
  have t3 := below_trans t2 b3
  have o1 := o1.below b3
  go_wp2_with fail
  refine (toEntryS_any _ _ _ _ _ (hal.below t3) hnl).mono ?_
  rintro e w4 ⟨A2, c2, rfl, o2, b4⟩
  have t4 := below_trans t3 b4
  have o1 := o1.below b4
  have o2_b := o2
  go_wp2_with fail
  refine (implMinutesText_any _ _ _ _ _ (pow10_below hT t4) (o2.rd enV_len) hsz).mono ?_
  rintro e w5 ⟨rfl, b5⟩
  have t5 := below_trans t4 b5
  have o1 := o1.below b5
  have o2 := o2.below b5
  go_wp2_with fail
  refine (toEntryS_any _ _ _ _ _ (hal.below t5) hnl).mono ?_
  rintro e w6 ⟨A3, c3, rfl, o3, b6⟩
  have t6 := below_trans t5 b6
  have o1 := o1.below b6
  have o2 := o2.below b6
  have o3_b := o3
  go_wp2_with fail
  refine (eqEntryS_same _ _ _ _ _ _ _ _ (o2.rd enV_len) (o3.rd enV_len)).mono ?_
  rintro e w7 ⟨rfl, b7⟩
  have t7 := below_trans t6 b7
  have o1 := o1.below b7
  have o2 := o2.below b7
  have o3 := o3.below b7
  go_wp2
  go_ret
  exact ⟨rfl, t7⟩

set_option maxRecDepth 100000 in
theorem door_met (os : Os) (args : Array Value) : laidMetH Tryd.prog Rows.fnExactMinutesTextRow.laid ((World.doorLaid Tryd.prog 72 os).forCall (fun _ _ => 0) ⟨#[], args, []⟩).memory :=
  laidMetH_of_parts3 (fuel := 8) (laidMet_of_run' 8 (by kernel_rfl) (by kernel_rfl)) (by kernel_rfl) (by kernel_rfl)

set_option maxRecDepth 100000 in
theorem lifted (os : Os) (started : os.Started) (H : Type) (enc : TypeId × Value → H) :
    ReturnsInHanded {} Tryd.checked os 5 .any (fun w args => (Rows.fnExactMinutesTextSpec.pre enc Tryd.prog Tryd.f5 [] false w args ∧ laidMetH Tryd.prog Rows.fnExactMinutesTextRow.laid w) ∧ sizedMet enc Tryd.prog Tryd.f5 (OpenSpec.ofChange Rows.fnExactMinutesTextSpec) false w args)
      (Rows.fnExactMinutesTextSpec.post enc Tryd.prog Tryd.f5 false true false false) := by
  refine returnsInHanded_of_change_and (C := Tryd.checked) (X := fun w _ => laidMetH Tryd.prog Rows.fnExactMinutesTextRow.laid w) (fun _ _ _ hh h => h.of_heap hh) own started (by kernel_rfl) Tryd.func5
    (ChangeSpec.witness_shaped (enc := enc) (C := Tryd.checked) (os := os) (X := fun w _ => laidMetH Tryd.prog Rows.fnExactMinutesTextRow.laid w) false (World.doorLaid Tryd.prog 72 os) #[.slice none 0 0] 8 rfl (World.shaped_of_RefB (by kernel_rfl) (by kernel_rfl)) (by kernel_rfl) (by kernel_rfl) (by kernel_rfl) (door_met os _)) ?_
  intro W base args ds gs before hval0 hW _ _ hL _
  have hval : ∀ (j : Nat) t v, Tryd.f5.params[j]? = some t → args[j]? = some v → Value.okWide Tryd.prog W .any base t v := hval0
  have hW' := hW
  obtain ⟨p, q, hA0, hV, rfl, hfz, hnd⟩ := hW
  have hA : DataW.TrodAll enc Tryd.prog W 0 (fun _ => true) true Tryd.f5.params.toList args.toList ds p := hA0
  rw [Tryd.params5] at hA hval
  obtain ⟨v0, vs0, d0, ds0, p0, q0, hargs, rfl, rfl, h0, r0⟩ := trodAll_cons hA
  obtain ⟨rfl, rfl, rfl⟩ := trodAll_nil r0
  obtain rfl : args = #[v0] := by cases args; simp_all
  obtain ⟨rfl, rfl⟩ := trodVars_none hV
  obtain ⟨A0, n0, c0, l0, rfl, R0, G0⟩ := open_rd (ec := enV) Tryd.underlying40 (by kernel_rfl) (read_en) (by omega) enV_len (hval 0 40 v0 rfl rfl) h0
  have hT := pow10_of (by kernel_rfl) hL (List.Mem.tail _ (List.Mem.tail _ (List.Mem.head _)))
  refine (walk A0 n0 c0 l0 W hT R0 G0).mono fun e W' ⟨he, hb⟩ => ?_
  subst he
  exact ⟨_, rfl, law_post laidOut (by kernel_rfl) (by kernel_rfl) Tryd.underlying4 rfl hW' rfl rfl rfl hb⟩

theorem over : Rows.fnExactMinutesTextRow.holds Tryd.pinned (OpenSpec.ofChange Rows.fnExactMinutesTextSpec) :=
  OpenClaim.holds_of_wide 5 Tryd.f5 rfl rfl rfl rfl rfl rfl rfl ⟨rfl, rfl, rfl, rfl, rfl⟩ rfl rfl rfl rfl rfl (by kernel_rfl) Tryd.func5 (by kernel_rfl)
    (of_decide_eq_true (by kernel_rfl)) (by unfold Func.isWrapper; rw [if_neg (of_decide_eq_false (by kernel_rfl))]; exact ⟨rfl, rfl⟩)
    (fun os started H enc _ => lifted os started H enc)

theorem proved : Rows.FnExactMinutesTextCardSaid :=
  Claim7.holds_tied_plain_at .later [] [.data, .data, .data] true (true, "0e8828522731ce099e3f8f4ecf53ca1d61b0378c63e48a9536d4fb81e8b1e9bf") true
    over (fun _ h => by cases h) (by kernel_rfl) (fun _ h => by cases h) fnExactMinutesText_row_tie rfl ⟨rfl, rfl⟩ (by kernel_rfl) rfl
    (fun f fn hf hfn => by
      obtain rfl : f = 5 := Option.some.inj ((show Tryd.prog.funcNamed "loop.example/g00909/laws.FnExactMinutesText" = some 5 by kernel_rfl).symm.trans hf) |>.symm
      obtain rfl : fn = Tryd.f5 := (Option.some.inj (Tryd.func5.symm.trans hfn)).symm
      exact ⟨by kernel_rfl, fun j t ht => by
        have hall : (Tryd.f5.params.toList.all fun u => !Tryd.prog.wantsStandIn u) = true := by kernel_rfl
        have hm : t ∈ Tryd.f5.params.toList := Array.mem_toList_iff.2 (Array.mem_of_getElem? ht)
        exact (show Tryd.prog.wantsStandIn t = false by simpa using List.all_eq_true.1 hall t hm)⟩)
    (by kernel_rfl)
#print axioms proved
end Go.Proofs.YtflmokdeekjjiaaDoor.fnExactMinutesText
