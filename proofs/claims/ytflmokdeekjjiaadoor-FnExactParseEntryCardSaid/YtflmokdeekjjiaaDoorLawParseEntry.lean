/- FnExactParseEntry: for every text the program's ParseEntry and the reference's return the same. No condition.
-/
import Derived.Test.YtflmokdeekjjiaaDoorRead
import Derived.Test.YtflmokdeekjjiaaDoorCards
import Derived.Test.YtflmokdeekjjiaaDoorTie
import Derived.ProofKit
import Derived.LaidMore
import Derived.OpenShut
import Derived.Stop.Joined
import Derived.SevenTiedAt
import Derived.Test.YtflmokdeekjjiaaDoorDoor
import Derived.Lay
import Derived.Test.YtflmokdeekjjiaaDoorErr
import Derived.Test.YtflmokdeekjjiaaDoorMinH
import Derived.HandedShaped
namespace Go.Proofs.YtflmokdeekjjiaaDoor.fnExactParseEntry
open Go Go.ChangeShapes Go.WideShapes Go.ChangeAt Go.RowKit Go.Sort
open Go.ChangeMaps (open_string)
set_option linter.unusedVariables false

theorem own : ownKnob Tryd.prog.godebug = none := by kernel_rfl
theorem laidOut : laidOutB Tryd.prog = true := by kernel_rfl

set_option maxRecDepth 100000 in
set_option maxHeartbeats 4000000 in
theorem walk (s : ByteArray) (mx : Int) (w : World) (hT : Lib.TabIs Tryd.prog w "internal/strconv.uint64pow10" .u64 Lib.pow10Tab) (ev : Value) (hE : w.cell? ⟨4, 0, none⟩ = some ev) (hev : ev = .nilIface ∨ ∃ te pe, ev = .iface te pe) (gs : s.size ≤ maxLen) (hM : w.cell? ⟨0, 0, none⟩ = some (.int .i64 mx)) : Calls Tryd.prog 6 #[.string s] w fun e w' => e = .returned (.bool true) ∧ Below w.heap.size w w' := by
  unfold maxLen at gs
  have HM := Lib.hid hM
  have HT := Lib.hid hT
  have HE := Lib.hid hE
  have HEV := Lib.hid hev
  clear hM hT hE hev
  go_enter Tryd.func6, Tryd.ntmps6
  by_cases ha : (1048576 : Int) < s.size
  · go_wp2
    go_ret
    exact ⟨rfl, Below.refl _ _⟩
  go_wp2_with fail
  refine (specParseEntry_any s _ (by omega)).mono ?_
  rintro e w1 ⟨rfl, b1⟩
  have p1 : Below w1.heap.size w1 (w1.alloc (.cells #[.int .i64 (parE s).1.kind, .string (parE s).1.who, .string (parE s).1.mo, .int .i64 (parE s).1.yes, .int .i64 (parE s).1.no, .int .i64 (parE s).1.ab, .bool (parE s).1.pa] 37)) := below_alloc _
  have q0 := fun i => cell_of_row (w1.alloc (.cells #[.int .i64 (parE s).1.kind, .string (parE s).1.who, .string (parE s).1.mo, .int .i64 (parE s).1.yes, .int .i64 (parE s).1.no, .int .i64 (parE s).1.ab, .bool (parE s).1.pa] 37)) w1.heap.size i _ _ _ (heap_new rfl)
  have c0 : (w1.alloc (.cells #[.int .i64 (parE s).1.kind, .string (parE s).1.who, .string (parE s).1.mo, .int .i64 (parE s).1.yes, .int .i64 (parE s).1.no, .int .i64 (parE s).1.ab, .bool (parE s).1.pa] 37)).cell? ⟨w1.heap.size, 0, none⟩ = some (.int .i64 (parE s).1.kind) := q0 0
  have c1 : (w1.alloc (.cells #[.int .i64 (parE s).1.kind, .string (parE s).1.who, .string (parE s).1.mo, .int .i64 (parE s).1.yes, .int .i64 (parE s).1.no, .int .i64 (parE s).1.ab, .bool (parE s).1.pa] 37)).cell? ⟨w1.heap.size, 1, none⟩ = some (.string (parE s).1.who) := q0 1
  have c2 : (w1.alloc (.cells #[.int .i64 (parE s).1.kind, .string (parE s).1.who, .string (parE s).1.mo, .int .i64 (parE s).1.yes, .int .i64 (parE s).1.no, .int .i64 (parE s).1.ab, .bool (parE s).1.pa] 37)).cell? ⟨w1.heap.size, 2, none⟩ = some (.string (parE s).1.mo) := q0 2
  have c3 : (w1.alloc (.cells #[.int .i64 (parE s).1.kind, .string (parE s).1.who, .string (parE s).1.mo, .int .i64 (parE s).1.yes, .int .i64 (parE s).1.no, .int .i64 (parE s).1.ab, .bool (parE s).1.pa] 37)).cell? ⟨w1.heap.size, 3, none⟩ = some (.int .i64 (parE s).1.yes) := q0 3
  have c4 : (w1.alloc (.cells #[.int .i64 (parE s).1.kind, .string (parE s).1.who, .string (parE s).1.mo, .int .i64 (parE s).1.yes, .int .i64 (parE s).1.no, .int .i64 (parE s).1.ab, .bool (parE s).1.pa] 37)).cell? ⟨w1.heap.size, 4, none⟩ = some (.int .i64 (parE s).1.no) := q0 4
  have c5 : (w1.alloc (.cells #[.int .i64 (parE s).1.kind, .string (parE s).1.who, .string (parE s).1.mo, .int .i64 (parE s).1.yes, .int .i64 (parE s).1.no, .int .i64 (parE s).1.ab, .bool (parE s).1.pa] 37)).cell? ⟨w1.heap.size, 5, none⟩ = some (.int .i64 (parE s).1.ab) := q0 5
  have c6 : (w1.alloc (.cells #[.int .i64 (parE s).1.kind, .string (parE s).1.who, .string (parE s).1.mo, .int .i64 (parE s).1.yes, .int .i64 (parE s).1.no, .int .i64 (parE s).1.ab, .bool (parE s).1.pa] 37)).cell? ⟨w1.heap.size, 6, none⟩ = some (.bool (parE s).1.pa) := q0 6
  clear q0
  go_wp2_with fail
  generalize hw2 : w1.alloc (.cells #[.int .i64 (parE s).1.kind, .string (parE s).1.who, .string (parE s).1.mo, .int .i64 (parE s).1.yes, .int .i64 (parE s).1.no, .int .i64 (parE s).1.ab, .bool (parE s).1.pa] 37) = w2 at *
  clear hw2
  have t2 := below_trans b1 p1
  refine (implParseEntry_any s mx ev _ (by omega) (cell_below t2 HM.out) (pow10_below HT.out t2) (cell_below t2 HE.out) HEV.out).mono ?_
  rintro e w3 ⟨rfl, b3⟩
  have t3 := below_trans t2 b3
  replace c0 := cell_below b3 c0
  replace c1 := cell_below b3 c1
  replace c2 := cell_below b3 c2
  replace c3 := cell_below b3 c3
  replace c4 := cell_below b3 c4
  replace c5 := cell_below b3 c5
  replace c6 := cell_below b3 c6
  have p3 : Below w3.heap.size w3 (w3.alloc (.cells #[.int .i64 (parE s).1.kind, .string (parE s).1.who, .string (parE s).1.mo, .int .i64 (parE s).1.yes, .int .i64 (parE s).1.no, .int .i64 (parE s).1.ab, .bool (parE s).1.pa] 37)) := below_alloc _
  have q0 := fun i => cell_of_row (w3.alloc (.cells #[.int .i64 (parE s).1.kind, .string (parE s).1.who, .string (parE s).1.mo, .int .i64 (parE s).1.yes, .int .i64 (parE s).1.no, .int .i64 (parE s).1.ab, .bool (parE s).1.pa] 37)) w3.heap.size i _ _ _ (heap_new rfl)
  have d0 : (w3.alloc (.cells #[.int .i64 (parE s).1.kind, .string (parE s).1.who, .string (parE s).1.mo, .int .i64 (parE s).1.yes, .int .i64 (parE s).1.no, .int .i64 (parE s).1.ab, .bool (parE s).1.pa] 37)).cell? ⟨w3.heap.size, 0, none⟩ = some (.int .i64 (parE s).1.kind) := q0 0
  have d1 : (w3.alloc (.cells #[.int .i64 (parE s).1.kind, .string (parE s).1.who, .string (parE s).1.mo, .int .i64 (parE s).1.yes, .int .i64 (parE s).1.no, .int .i64 (parE s).1.ab, .bool (parE s).1.pa] 37)).cell? ⟨w3.heap.size, 1, none⟩ = some (.string (parE s).1.who) := q0 1
  have d2 : (w3.alloc (.cells #[.int .i64 (parE s).1.kind, .string (parE s).1.who, .string (parE s).1.mo, .int .i64 (parE s).1.yes, .int .i64 (parE s).1.no, .int .i64 (parE s).1.ab, .bool (parE s).1.pa] 37)).cell? ⟨w3.heap.size, 2, none⟩ = some (.string (parE s).1.mo) := q0 2
  have d3 : (w3.alloc (.cells #[.int .i64 (parE s).1.kind, .string (parE s).1.who, .string (parE s).1.mo, .int .i64 (parE s).1.yes, .int .i64 (parE s).1.no, .int .i64 (parE s).1.ab, .bool (parE s).1.pa] 37)).cell? ⟨w3.heap.size, 3, none⟩ = some (.int .i64 (parE s).1.yes) := q0 3
  have d4 : (w3.alloc (.cells #[.int .i64 (parE s).1.kind, .string (parE s).1.who, .string (parE s).1.mo, .int .i64 (parE s).1.yes, .int .i64 (parE s).1.no, .int .i64 (parE s).1.ab, .bool (parE s).1.pa] 37)).cell? ⟨w3.heap.size, 4, none⟩ = some (.int .i64 (parE s).1.no) := q0 4
  have d5 : (w3.alloc (.cells #[.int .i64 (parE s).1.kind, .string (parE s).1.who, .string (parE s).1.mo, .int .i64 (parE s).1.yes, .int .i64 (parE s).1.no, .int .i64 (parE s).1.ab, .bool (parE s).1.pa] 37)).cell? ⟨w3.heap.size, 5, none⟩ = some (.int .i64 (parE s).1.ab) := q0 5
  have d6 : (w3.alloc (.cells #[.int .i64 (parE s).1.kind, .string (parE s).1.who, .string (parE s).1.mo, .int .i64 (parE s).1.yes, .int .i64 (parE s).1.no, .int .i64 (parE s).1.ab, .bool (parE s).1.pa] 37)).cell? ⟨w3.heap.size, 6, none⟩ = some (.bool (parE s).1.pa) := q0 6
  replace c0 := cell_below p3 c0
  replace c1 := cell_below p3 c1
  replace c2 := cell_below p3 c2
  replace c3 := cell_below p3 c3
  replace c4 := cell_below p3 c4
  replace c5 := cell_below p3 c5
  replace c6 := cell_below p3 c6
  clear q0
  go_wp2_with fail
  generalize hw4 : w3.alloc (.cells #[.int .i64 (parE s).1.kind, .string (parE s).1.who, .string (parE s).1.mo, .int .i64 (parE s).1.yes, .int .i64 (parE s).1.no, .int .i64 (parE s).1.ab, .bool (parE s).1.pa] 37) = w4 at *
  clear hw4
  have t4 := below_trans t3 p3
  refine (eqEntry_same _ _ _ _ _ _ _ _).mono ?_
  rintro e w5 ⟨rfl, b5⟩
  go_wp2
  go_ret
  exact ⟨rfl, below_trans t4 b5⟩

set_option maxRecDepth 100000 in
theorem door_met (os : Os) (args : Array Value) : laidMetH Tryd.prog Rows.fnExactParseEntryRow.laid ((World.laidAll Tryd.prog os Rows.fnExactParseEntryRow.laid).forCall (fun _ _ => 0) ⟨#[], args, []⟩).memory :=
  by rw [MakeChecks.laidMetH_plain _ _ _ (by kernel_rfl)]; exact laidMet_laidAll _ (by kernel_rfl) (by kernel_rfl)

set_option maxRecDepth 100000 in
theorem lifted (os : Os) (started : os.Started) (H : Type) (enc : TypeId × Value → H) :
    ReturnsInHanded {} Tryd.checked os 6 .any (fun w args => (Rows.fnExactParseEntrySpec.pre enc Tryd.prog Tryd.f6 [] false w args ∧ laidMetH Tryd.prog Rows.fnExactParseEntryRow.laid w) ∧ sizedMet enc Tryd.prog Tryd.f6 (OpenSpec.ofChange Rows.fnExactParseEntrySpec) false w args)
      (Rows.fnExactParseEntrySpec.post enc Tryd.prog Tryd.f6 false true false false) := by
  refine handed_and_shaped (C := Tryd.checked) (X := fun w _ => laidMetH Tryd.prog Rows.fnExactParseEntryRow.laid w) (fun _ _ _ hh h => h.of_heap hh) own started (by kernel_rfl) Tryd.func6
    (ChangeSpec.witness_shaped (enc := enc) (C := Tryd.checked) (os := os) (X := fun w _ => laidMetH Tryd.prog Rows.fnExactParseEntryRow.laid w) false (World.laidAll Tryd.prog os Rows.fnExactParseEntryRow.laid) #[.string ByteArray.empty] 8 (World.laidAll_os _ _ _) (World.shaped_of_ZipB (by kernel_rfl) (by kernel_rfl)) (by kernel_rfl) (by kernel_rfl) (by kernel_rfl) (door_met os _)) ?_
  intro W base args ds gs before hval0 hW hL hsh
  have hval : ∀ (j : Nat) t v, Tryd.f6.params[j]? = some t → args[j]? = some v → Value.okWide Tryd.prog W .any base t v := hval0
  have hW' := hW
  obtain ⟨p, q, hA0, hV, rfl, hfz, hnd⟩ := hW
  have hA : DataW.TrodAll enc Tryd.prog W 0 (fun _ => true) true Tryd.f6.params.toList args.toList ds p := hA0
  rw [Tryd.params6] at hA hval
  obtain ⟨v0, vs0, d0, ds0, p0, q0, hargs, rfl, rfl, h0, r0⟩ := trodAll_cons hA
  obtain ⟨rfl, rfl, rfl⟩ := trodAll_nil r0
  obtain rfl : args = #[v0] := by cases args; simp_all
  obtain ⟨rfl, rfl⟩ := trodVars_none hV
  obtain ⟨x0, rfl, -, -, w0⟩ := open_string Tryd.underlying9 (hval 0 9 v0 rfl rfl) h0
  obtain ⟨mx, hM⟩ := Tryd.laysM143.s1_3 W (show W.ShapedOpen Tryd.prog from hsh)
  have hT := pow10_of (by kernel_rfl) hL (List.Mem.tail _ (List.Mem.tail _ (List.Mem.head _)))
  obtain ⟨ev, hE, hev⟩ := errSyntax_of (by kernel_rfl) hL (List.Mem.tail _ (List.Mem.tail _ (List.Mem.tail _ (List.Mem.tail _ (List.Mem.tail _ (List.Mem.head _))))))
  refine (walk x0 mx W hT ev hE hev w0 hM).mono fun e W' ⟨he, hb⟩ => ?_
  subst he
  exact ⟨_, rfl, law_post laidOut (by kernel_rfl) (by kernel_rfl) Tryd.underlying4 rfl hW' rfl rfl rfl hb⟩

theorem over : Rows.fnExactParseEntryRow.holds Tryd.pinned (OpenSpec.ofChange Rows.fnExactParseEntrySpec) :=
  OpenClaim.holds_of_wide 6 Tryd.f6 rfl rfl rfl rfl rfl rfl rfl ⟨rfl, rfl, rfl, rfl, rfl⟩ rfl rfl rfl rfl rfl (by kernel_rfl) Tryd.func6 (by kernel_rfl)
    (of_decide_eq_true (by kernel_rfl)) (by unfold Func.isWrapper; rw [if_neg (of_decide_eq_false (by kernel_rfl))]; exact ⟨rfl, rfl⟩)
    (fun os started H enc _ => lifted os started H enc)

theorem proved : Rows.FnExactParseEntryCardSaid :=
  Claim7.holds_tied_plain_at .later [] [.data, .data, .data, .data, .sentinel, .sentinel, .pinned] true (true, "0e8828522731ce099e3f8f4ecf53ca1d61b0378c63e48a9536d4fb81e8b1e9bf") true
    over (fun _ h => by cases h) (by kernel_rfl) (fun _ h => by cases h) fnExactParseEntry_row_tie rfl ⟨rfl, rfl⟩ (by kernel_rfl) rfl
    (fun f fn hf hfn => by
      obtain rfl : f = 6 := Option.some.inj ((show Tryd.prog.funcNamed "loop.example/g00909/laws.FnExactParseEntry" = some 6 by kernel_rfl).symm.trans hf) |>.symm
      obtain rfl : fn = Tryd.f6 := (Option.some.inj (Tryd.func6.symm.trans hfn)).symm
      exact ⟨by kernel_rfl, fun j t ht => by
        have hall : (Tryd.f6.params.toList.all fun u => !Tryd.prog.wantsStandIn u) = true := by kernel_rfl
        have hm : t ∈ Tryd.f6.params.toList := Array.mem_toList_iff.2 (Array.mem_of_getElem? ht)
        exact (show Tryd.prog.wantsStandIn t = false by simpa using List.all_eq_true.1 hall t hm)⟩)
    (by kernel_rfl)
#print axioms proved
end Go.Proofs.YtflmokdeekjjiaaDoor.fnExactParseEntry
