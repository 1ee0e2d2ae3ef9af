/- FnExactParseMinutes: for every text the program's ParseMinutes and the reference's return the same, and the result's memory is shared with nothing. No condition.
-/
import Derived.Test.YtflmokdeekjjiaaDoorRead
import Derived.Test.YtflmokdeekjjiaaDoorCards
import Derived.Test.YtflmokdeekjjiaaDoorTie
import Derived.ProofKit
import Derived.LaidMore
import Derived.OpenShut
import Derived.Stop.Joined
import Derived.SevenTiedAt
import Derived.Test.YtflmokdeekjjiaaDoorDoor
import Derived.Lay
import Derived.Test.YtflmokdeekjjiaaDoorErr
import Derived.Test.YtflmokdeekjjiaaDoorMinZ
import Derived.HandedShaped
namespace Go.Proofs.YtflmokdeekjjiaaDoor.fnExactParseMinutes
open Go Go.ChangeShapes Go.WideShapes Go.ChangeAt Go.RowKit Go.Sort
open Go.ChangeMaps (open_string)
set_option linter.unusedVariables false

theorem own : ownKnob Tryd.prog.godebug = none := by kernel_rfl
theorem laidOut : laidOutB Tryd.prog = true := by kernel_rfl

set_option maxRecDepth 100000 in
set_option maxHeartbeats 4000000 in
theorem walk (s : ByteArray) (mx : Int) (w : World) (hT : Lib.TabIs Tryd.prog w "internal/strconv.uint64pow10" .u64 Lib.pow10Tab) (ev : Value) (hE : w.cell? ⟨4, 0, none⟩ = some ev) (hev : ev = .nilIface ∨ ∃ te pe, ev = .iface te pe) (gs : s.size ≤ maxLen) (hM : w.cell? ⟨0, 0, none⟩ = some (.int .i64 mx)) :
    Calls Tryd.prog 3 #[.string s] w fun e w' => e = .returned (.bool true) ∧ Below w.heap.size w w' := by
  unfold maxLen at gs
  have HM := Lib.hid hM
  have HT := Lib.hid hT
  have HE := Lib.hid hE
  have HEV := Lib.hid hev
  clear hM hT hE hev
  go_enter Tryd.func3, Tryd.ntmps3
  by_cases hss : (1048576 : Int) < (s.size : Nat)
  · go_wp2
    go_ret
    exact ⟨rfl, (Below.refl _ _)⟩
  have hns : s.size ≤ 1048576 := by omega
  go_wp2_with fail
  refine (specParseMinutes_any s _ (by omega)).mono ?_
  rintro e w1 ⟨⟨A1, q1, c1, rfl, o1⟩, b1⟩
  have t1 := b1
  have o1_b := o1
  go_wp2_with fail
  refine (implParseMinutes_any s mx ev _ (by omega) (cell_below t1 HM.out) (pow10_below HT.out t1) (cell_below t1 HE.out) HEV.out).mono ?_
  rintro e w2 ⟨⟨A2, q2, c2, rfl, o2⟩, b2⟩
  have t2 := below_trans t1 b2
  have o1 := o1.below b2
  have o2_b := o2
  have hqg : q2 ≤ 1048577 := by rw [← o2.len]; have := parM_len s; omega
  go_wp2_with fail
  refine (eqEntryS_same _ _ _ _ _ _ _ _ (o2.rd enV_len) (o1.rd enV_len)).mono ?_
  rintro e w3 ⟨rfl, b3⟩
  have t3 := below_trans t2 b3
  have o1 := o1.below b3
  have o2 := o2.below b3
  go_wp2_with fail
  refine (markEntryS_any _ _ _ _ _ _ _ _ o2 (by omega) (by omega) (by omega) (Nat.le_trans b2.size b3.size)).mono ?_
  rintro e w4 ⟨rfl, o2_m, g4⟩
  have o1_n := o1.grown g4 (Own.apart' o1_b o2 (Nat.le_refl _))
  have t4 := t3.trans (o2.below_of g4 t1.size t3.size)
  clear o2 o1
  have o1 := o1_n
  have o2 := o2_m
  clear o2_m o1_n
  go_wp2_with fail
  refine (heldEntryS_any _ _ _ _ _ (o2.rd enV_len) (by omega) (by omega) (by omega)).mono ?_
  rintro e w5 ⟨rfl, b5⟩
  have t5 := below_trans t4 b5
  have o1 := o1.below b5
  have o2 := o2.below b5
  go_wp2_with fail
  refine (implParseMinutes_any s mx ev _ (by omega) (cell_below t5 HM.out) (pow10_below HT.out t5) (cell_below t5 HE.out) HEV.out).mono ?_
  rintro e w6 ⟨⟨A3, q3, c3, rfl, o3⟩, b6⟩
  have t6 := below_trans t5 b6
  have o1 := o1.below b6
  have o2 := o2.below b6
  have o3_b := o3
  go_wp2_with fail
  refine (eqEntryS_same _ _ _ _ _ _ _ _ (o3.rd enV_len) (o1.rd enV_len)).mono ?_
  rintro e w7 ⟨rfl, b7⟩
  have t7 := below_trans t6 b7
  have o1 := o1.below b7
  have o2 := o2.below b7
  have o3 := o3.below b7
  go_wp2_with fail
  refine (heldEntryS_any _ _ _ _ _ (o2.rd enV_len) (by omega) (by omega) (by omega)).mono ?_
  rintro e w8 ⟨rfl, b8⟩
  have t8 := below_trans t7 b8
  have o1 := o1.below b8
  have o2 := o2.below b8
  have o3 := o3.below b8
  go_wp2
  go_ret
  exact ⟨rfl, t8⟩

set_option maxRecDepth 100000 in
theorem door_met (os : Os) (args : Array Value) : laidMetH Tryd.prog Rows.fnExactParseMinutesRow.laid ((World.laidAll Tryd.prog os Rows.fnExactParseMinutesRow.laid).forCall (fun _ _ => 0) ⟨#[], args, []⟩).memory :=
  by rw [MakeChecks.laidMetH_plain _ _ _ (by kernel_rfl)]; exact laidMet_laidAll _ (by kernel_rfl) (by kernel_rfl)

set_option maxRecDepth 100000 in
theorem lifted (os : Os) (started : os.Started) (H : Type) (enc : TypeId × Value → H) :
    ReturnsInHanded {} Tryd.checked os 3 .any (fun w args => (Rows.fnExactParseMinutesSpec.pre enc Tryd.prog Tryd.f3 [] false w args ∧ laidMetH Tryd.prog Rows.fnExactParseMinutesRow.laid w) ∧ sizedMet enc Tryd.prog Tryd.f3 (OpenSpec.ofChange Rows.fnExactParseMinutesSpec) false w args)
      (Rows.fnExactParseMinutesSpec.post enc Tryd.prog Tryd.f3 false true false false) := by
  refine handed_and_shaped (C := Tryd.checked) (X := fun w _ => laidMetH Tryd.prog Rows.fnExactParseMinutesRow.laid w) (fun _ _ _ hh h => h.of_heap hh) own started (by kernel_rfl) Tryd.func3
    (ChangeSpec.witness_shaped (enc := enc) (C := Tryd.checked) (os := os) (X := fun w _ => laidMetH Tryd.prog Rows.fnExactParseMinutesRow.laid w) false (World.laidAll Tryd.prog os Rows.fnExactParseMinutesRow.laid) #[.string ByteArray.empty] 8 (World.laidAll_os _ _ _) (World.shaped_of_ZipB (by kernel_rfl) (by kernel_rfl)) (by kernel_rfl) (by kernel_rfl) (by kernel_rfl) (door_met os _)) ?_
  intro W base args ds gs before hval0 hW hL hsh
  have hval : ∀ (j : Nat) t v, Tryd.f3.params[j]? = some t → args[j]? = some v → Value.okWide Tryd.prog W .any base t v := hval0
  have hW' := hW
  obtain ⟨p, q, hA0, hV, rfl, hfz, hnd⟩ := hW
  have hA : DataW.TrodAll enc Tryd.prog W 0 (fun _ => true) true Tryd.f3.params.toList args.toList ds p := hA0
  rw [Tryd.params3] at hA hval
  obtain ⟨v0, vs0, d0, ds0, p0, q0, hargs, rfl, rfl, h0, r0⟩ := trodAll_cons hA
  obtain ⟨rfl, rfl, rfl⟩ := trodAll_nil r0
  obtain rfl : args = #[v0] := by cases args; simp_all
  obtain ⟨rfl, rfl⟩ := trodVars_none hV
  obtain ⟨x0, rfl, -, -, w0⟩ := open_string Tryd.underlying9 (hval 0 9 v0 rfl rfl) h0
  obtain ⟨mx, hM⟩ := Tryd.laysM143.s1_3 W (show W.ShapedOpen Tryd.prog from hsh)
  have hT := pow10_of (by kernel_rfl) hL (List.Mem.tail _ (List.Mem.tail _ (List.Mem.head _)))
  obtain ⟨ev, hE, hev⟩ := errSyntax_of (by kernel_rfl) hL (List.Mem.tail _ (List.Mem.tail _ (List.Mem.tail _ (List.Mem.tail _ (List.Mem.tail _ (List.Mem.head _))))))
  refine (walk x0 mx W hT ev hE hev w0 hM).mono fun e W' ⟨he, hb⟩ => ?_
  subst he
  exact ⟨_, rfl, law_post laidOut (by kernel_rfl) (by kernel_rfl) Tryd.underlying4 rfl hW' rfl rfl rfl hb⟩

theorem over : Rows.fnExactParseMinutesRow.holds Tryd.pinned (OpenSpec.ofChange Rows.fnExactParseMinutesSpec) :=
  OpenClaim.holds_of_wide 3 Tryd.f3 rfl rfl rfl rfl rfl rfl rfl ⟨rfl, rfl, rfl, rfl, rfl⟩ rfl rfl rfl rfl rfl (by kernel_rfl) Tryd.func3 (by kernel_rfl)
    (of_decide_eq_true (by kernel_rfl)) (by unfold Func.isWrapper; rw [if_neg (of_decide_eq_false (by kernel_rfl))]; exact ⟨rfl, rfl⟩)
    (fun os started H enc _ => lifted os started H enc)

theorem proved : Rows.FnExactParseMinutesCardSaid :=
  Claim7.holds_tied_plain_at .later [] [.data, .data, .data, .data, .sentinel, .sentinel, .pinned] true (true, "0e8828522731ce099e3f8f4ecf53ca1d61b0378c63e48a9536d4fb81e8b1e9bf") true
    over (fun _ h => by cases h) (by kernel_rfl) (fun _ h => by cases h) fnExactParseMinutes_row_tie rfl ⟨rfl, rfl⟩ (by kernel_rfl) rfl
    (fun f fn hf hfn => by
      obtain rfl : f = 3 := Option.some.inj ((show Tryd.prog.funcNamed "loop.example/g00909/laws.FnExactParseMinutes" = some 3 by kernel_rfl).symm.trans hf) |>.symm
      obtain rfl : fn = Tryd.f3 := (Option.some.inj (Tryd.func3.symm.trans hfn)).symm
      exact ⟨by kernel_rfl, fun j t ht => by
        have hall : (Tryd.f3.params.toList.all fun u => !Tryd.prog.wantsStandIn u) = true := by kernel_rfl
        have hm : t ∈ Tryd.f3.params.toList := Array.mem_toList_iff.2 (Array.mem_of_getElem? ht)
        exact (show Tryd.prog.wantsStandIn t = false by simpa using List.all_eq_true.1 hall t hm)⟩)
    (by kernel_rfl)
#print axioms proved
end Go.Proofs.YtflmokdeekjjiaaDoor.fnExactParseMinutes
