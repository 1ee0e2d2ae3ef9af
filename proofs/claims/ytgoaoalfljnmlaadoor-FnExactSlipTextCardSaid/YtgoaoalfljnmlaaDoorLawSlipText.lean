/- FnExactSlipText: for every ballot the program's SlipText and the reference's return the same. No condition.
-/
import Derived.Test.YtgoaoalfljnmlaaDoorRead
import Derived.Test.YtgoaoalfljnmlaaDoorCards
import Derived.Test.YtgoaoalfljnmlaaDoorTie
import Derived.ProofKit
import Derived.LaidMore
import Derived.OpenShut
import Derived.Stop.Joined
import Derived.SevenTiedAt
import Derived.Test.YtgoaoalfljnmlaaDoorSlipA
namespace Go.Proofs.YtgoaoalfljnmlaaDoor.fnExactSlipText
open Go Go.ChangeShapes Go.WideShapes Go.ChangeAt Go.RowKit Go.Sort
open Go.ChangeMaps (open_string)
set_option linter.unusedVariables false

theorem own : ownKnob Tryd.prog.godebug = none := by kernel_rfl
theorem laidOut : laidOutB Tryd.prog = true := by kernel_rfl

set_option maxRecDepth 100000 in
set_option maxHeartbeats 4000000 in
theorem walk (x : BA) (w : World) (hT : Lib.TabIs Tryd.prog w "internal/strconv.uint64pow10" .u64 Lib.pow10Tab) (gx : baGood x) :
    Calls Tryd.prog 3 #[.agg (baV x).toArray] w fun e w' => e = .returned (.bool true) ∧ Below w.heap.size w w' := by
  show Calls _ _ #[.agg #[.int .i64 x.code, .string x.ch]] _ _
  obtain ⟨w0, hw0⟩ : ∃ ww : World, ww = w.alloc (.cells #[.int .i64 x.code, .string x.ch] 23) := ⟨_, rfl⟩
  have ss1 : w0.heap.size = w.heap.size + 1 := by rw [hw0]; simp
  have ba0 : Below w.heap.size w w0 := by rw [hw0]; exact below_alloc _
  have bb0 : Below w.heap.size w w0 := ba0
  have hb0 : w0.heap[w.heap.size]? = some (.cells #[.int .i64 x.code, .string x.ch] 23) := by rw [hw0]; exact heap_new rfl
  have qq := fun i => cell_of_row w0 (w.heap.size) i _ _ _ hb0
  have qx0 : w0.cell? ⟨w.heap.size, 0, none⟩ = some (.int .i64 x.code) := qq 0
  have qx1 : w0.cell? ⟨w.heap.size, 1, none⟩ = some (.string x.ch) := qq 1
  clear qq hb0
  have b0 := bb0
  clear ss1 ba0 bb0
  go_enter Tryd.func3, Tryd.ntmps3
  go_wp2_with fail
  rw [← hw0]
  clear hw0
  have hltx := lt_of_cell qx0
  refine (szBallot_any _ _ _ _ (by omega) (by omega) (gx.2)).mono ?_
  rintro e w1 ⟨⟨r1, rfl, hr⟩, b1⟩
  have t1 := below_trans b0 b1
  replace qx0 := cell_below b1 qx0
  replace qx1 := cell_below b1 qx1
  rcases hr with rfl | hr
  · go_wp2
    go_ret
    exact ⟨rfl, t1⟩
  obtain ⟨hr1a, hr1b, hsx0⟩ := hr
  simp only at hsx0
  have hzx0 : x.ch.size ≤ 1048576 := by omega
  go_wp2_with fail
  refine (toBallot_any _ _ _).mono ?_
  rintro e w2 ⟨rfl, b2⟩
  have t2 := below_trans t1 b2
  replace qx0 := cell_below b2 qx0
  replace qx1 := cell_below b2 qx1
  go_wp2_with fail
  refine (specSlipText_any x _ gx.2).mono ?_
  rintro e w3 ⟨rfl, b3⟩
  have t3 := below_trans t2 b3
  replace qx0 := cell_below b3 qx0
  replace qx1 := cell_below b3 qx1
  go_wp2_with fail
  refine (toBallot_any _ _ _).mono ?_
  rintro e w4 ⟨rfl, b4⟩
  have t4 := below_trans t3 b4
  replace qx0 := cell_below b4 qx0
  replace qx1 := cell_below b4 qx1
  go_wp2_with fail
  refine (implSlipText_any x _ gx.2 (pow10_below hT t4)).mono ?_
  rintro e w5 ⟨rfl, b5⟩
  have t5 := below_trans t4 b5
  replace qx0 := cell_below b5 qx0
  replace qx1 := cell_below b5 qx1
  go_wp2
  go_ret
  exact ⟨rfl, t5⟩

set_option maxRecDepth 100000 in
theorem door_met (os : Os) (args : Array Value) : laidMetH Tryd.prog Rows.fnExactSlipTextRow.laid ((World.doorLaid Tryd.prog 72 os).forCall (fun _ _ => 0) ⟨#[], args, []⟩).memory :=
  laidMetH_of_parts3 (fuel := 8) (laidMet_of_run' 8 (by kernel_rfl) (by kernel_rfl)) (by kernel_rfl) (by kernel_rfl)

set_option maxRecDepth 100000 in
theorem lifted (os : Os) (started : os.Started) (H : Type) (enc : TypeId × Value → H) :
    ReturnsInHanded {} Tryd.checked os 3 .any (fun w args => (Rows.fnExactSlipTextSpec.pre enc Tryd.prog Tryd.f3 [] false w args ∧ laidMetH Tryd.prog Rows.fnExactSlipTextRow.laid w) ∧ sizedMet enc Tryd.prog Tryd.f3 (OpenSpec.ofChange Rows.fnExactSlipTextSpec) false w args)
      (Rows.fnExactSlipTextSpec.post enc Tryd.prog Tryd.f3 false true false false) := by
  refine returnsInHanded_of_change_and (C := Tryd.checked) (X := fun w _ => laidMetH Tryd.prog Rows.fnExactSlipTextRow.laid w) (fun _ _ _ hh h => h.of_heap hh) own started (by kernel_rfl) Tryd.func3
    (ChangeSpec.witness_shaped (enc := enc) (C := Tryd.checked) (os := os) (X := fun w _ => laidMetH Tryd.prog Rows.fnExactSlipTextRow.laid w) false (World.doorLaid Tryd.prog 72 os) #[.agg #[.int .i64 0, .string ByteArray.empty]] 8 rfl (World.shaped_of_RefB (by kernel_rfl) (by kernel_rfl)) (by kernel_rfl) (by kernel_rfl) (by kernel_rfl) (door_met os _)) ?_
  intro W base args ds gs before hval0 hW _ _ hL _
  have hval : ∀ (j : Nat) t v, Tryd.f3.params[j]? = some t → args[j]? = some v → Value.okWide Tryd.prog W .any base t v := hval0
  have hW' := hW
  obtain ⟨p, q, hA0, hV, rfl, hfz, hnd⟩ := hW
  have hA : DataW.TrodAll enc Tryd.prog W 0 (fun _ => true) true Tryd.f3.params.toList args.toList ds p := hA0
  rw [Tryd.params3] at hA hval
  obtain ⟨v0, vs0, d0, ds0, p0, q0, hargs, rfl, rfl, h0, r0⟩ := trodAll_cons hA
  obtain ⟨rfl, rfl, rfl⟩ := trodAll_nil r0
  obtain rfl : args = #[v0] := by cases args; simp_all
  obtain ⟨rfl, rfl⟩ := trodVars_none hV
  obtain ⟨x0, rfl, g0⟩ := open_val (ec := baV) Tryd.underlying23 read_ba (hval 0 23 v0 rfl rfl) h0
  have hT := pow10_of (by kernel_rfl) hL (List.Mem.tail _ (List.Mem.tail _ (List.Mem.head _)))
  refine (walk x0 W hT g0).mono fun e W' ⟨he, hb⟩ => ?_
  subst he
  exact ⟨_, rfl, law_post laidOut (by kernel_rfl) (by kernel_rfl) Tryd.underlying4 rfl hW' rfl rfl rfl hb⟩

theorem over : Rows.fnExactSlipTextRow.holds Tryd.pinned (OpenSpec.ofChange Rows.fnExactSlipTextSpec) :=
  OpenClaim.holds_of_wide 3 Tryd.f3 rfl rfl rfl rfl rfl rfl rfl ⟨rfl, rfl, rfl, rfl, rfl⟩ rfl rfl rfl rfl rfl (by kernel_rfl) Tryd.func3 (by kernel_rfl)
    (of_decide_eq_true (by kernel_rfl)) (by unfold Func.isWrapper; rw [if_neg (of_decide_eq_false (by kernel_rfl))]; exact ⟨rfl, rfl⟩)
    (fun os started H enc _ => lifted os started H enc)

theorem proved : Rows.FnExactSlipTextCardSaid :=
  Claim7.holds_tied_plain_at .later [] [.data, .data, .data] true (true, "8f57fda624a3b4eae6348de781d1cf8390965158173b767ebf60e9c44a0082c7") true
    over (fun _ h => by cases h) (by kernel_rfl) (fun _ h => by cases h) fnExactSlipText_row_tie rfl ⟨rfl, rfl⟩ (by kernel_rfl) rfl
    (fun f fn hf hfn => by
      obtain rfl : f = 3 := Option.some.inj ((show Tryd.prog.funcNamed "loop.example/g00909/laws.FnExactSlipText" = some 3 by kernel_rfl).symm.trans hf) |>.symm
      obtain rfl : fn = Tryd.f3 := (Option.some.inj (Tryd.func3.symm.trans hfn)).symm
      exact ⟨by kernel_rfl, fun j t ht => by
        have hall : (Tryd.f3.params.toList.all fun u => !Tryd.prog.wantsStandIn u) = true := by kernel_rfl
        have hm : t ∈ Tryd.f3.params.toList := Array.mem_toList_iff.2 (Array.mem_of_getElem? ht)
        exact (show Tryd.prog.wantsStandIn t = false by simpa using List.all_eq_true.1 hall t hm)⟩)
    (by kernel_rfl)
#print axioms proved
end Go.Proofs.YtgoaoalfljnmlaaDoor.fnExactSlipText
