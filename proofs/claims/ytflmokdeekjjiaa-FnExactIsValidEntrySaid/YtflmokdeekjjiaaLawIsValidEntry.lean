/- FnExactIsValidEntry: for every entry the program's IsValidEntry and the reference's return the same. No condition.
-/
import Derived.Test.YtflmokdeekjjiaaRead
import Derived.Test.YtflmokdeekjjiaaMinB
namespace Go.Proofs.Ytflmokdeekjjiaa.fnExactIsValidEntry
open Go Go.ChangeShapes Go.WideShapes Go.ChangeAt Go.RowKit Go.Sort
open Go.ChangeMaps (open_string)
set_option linter.unusedVariables false

theorem own : ownKnob Try.prog.godebug = none := by kernel_rfl
theorem laidOut : laidOutB Try.prog = true := by kernel_rfl

set_option maxRecDepth 100000 in
set_option maxHeartbeats 4000000 in
theorem walk (x : EN) (w : World) (gx : enGood x) :
    Calls Try.prog 3 #[.agg (enV x).toArray] w fun e w' => e = .returned (.bool true) ∧ Below w.heap.size w w' := by
  show Calls _ _ #[.agg #[.int .i64 x.kind, .string x.who, .string x.mo, .int .i64 x.yes, .int .i64 x.no, .int .i64 x.ab, .bool x.pa]] _ _
  obtain ⟨w0, hw0⟩ : ∃ ww : World, ww = w.alloc (.cells #[.int .i64 x.kind, .string x.who, .string x.mo, .int .i64 x.yes, .int .i64 x.no, .int .i64 x.ab, .bool x.pa] 25) := ⟨_, rfl⟩
  have ss1 : w0.heap.size = w.heap.size + 1 := by rw [hw0]; simp
  have ba0 : Below w.heap.size w w0 := by rw [hw0]; exact below_alloc _
  have bb0 : Below w.heap.size w w0 := ba0
  have hb0 : w0.heap[w.heap.size]? = some (.cells #[.int .i64 x.kind, .string x.who, .string x.mo, .int .i64 x.yes, .int .i64 x.no, .int .i64 x.ab, .bool x.pa] 25) := by rw [hw0]; exact heap_new rfl
  have qq := fun i => cell_of_row w0 (w.heap.size) i _ _ _ hb0
  have qx0 : w0.cell? ⟨w.heap.size, 0, none⟩ = some (.int .i64 x.kind) := qq 0
  have qx1 : w0.cell? ⟨w.heap.size, 1, none⟩ = some (.string x.who) := qq 1
  have qx2 : w0.cell? ⟨w.heap.size, 2, none⟩ = some (.string x.mo) := qq 2
  have qx3 : w0.cell? ⟨w.heap.size, 3, none⟩ = some (.int .i64 x.yes) := qq 3
  have qx4 : w0.cell? ⟨w.heap.size, 4, none⟩ = some (.int .i64 x.no) := qq 4
  have qx5 : w0.cell? ⟨w.heap.size, 5, none⟩ = some (.int .i64 x.ab) := qq 5
  have qx6 : w0.cell? ⟨w.heap.size, 6, none⟩ = some (.bool x.pa) := qq 6
  clear qq hb0
  have b0 := bb0
  clear ss1 ba0 bb0
  go_enter Try.func3, Try.ntmps3
  go_wp2_with fail
  rw [← hw0]
  clear hw0
  have hltx := lt_of_cell qx0
  refine (szEntry_any _ _ _ _ _ _ _ _ _ (by omega) (by omega) (gx.2.1) (gx.2.2.1)).mono ?_
  rintro e w1 ⟨⟨r1, rfl, hr⟩, b1⟩
  have t1 := below_trans b0 b1
  replace qx0 := cell_below b1 qx0
  replace qx1 := cell_below b1 qx1
  replace qx2 := cell_below b1 qx2
  replace qx3 := cell_below b1 qx3
  replace qx4 := cell_below b1 qx4
  replace qx5 := cell_below b1 qx5
  replace qx6 := cell_below b1 qx6
  rcases hr with rfl | hr
  · go_wp2
    go_ret
    exact ⟨rfl, t1⟩
  obtain ⟨hr1a, hr1b, hsx0, hsx1⟩ := hr
  simp only at hsx0 hsx1
  have hzx0 : x.who.size ≤ 1048576 := by omega
  have hzx1 : x.mo.size ≤ 1048576 := by omega
  have hsz : EnSz x := ⟨gx.2.1, gx.2.2.1⟩
  go_wp2_with fail
  refine (toEntry_any _ _ _ _ _ _ _ _).mono ?_
  rintro e w2 ⟨rfl, b2⟩
  have t2 := below_trans t1 b2
  replace qx0 := cell_below b2 qx0
  replace qx1 := cell_below b2 qx1
  replace qx2 := cell_below b2 qx2
  replace qx3 := cell_below b2 qx3
  replace qx4 := cell_below b2 qx4
  replace qx5 := cell_below b2 qx5
  replace qx6 := cell_below b2 qx6
  go_wp2_with fail
  refine (specEntry_any x _ hsz).mono ?_
  rintro e w3 ⟨rfl, b3⟩
  have t3 := below_trans t2 b3
  replace qx0 := cell_below b3 qx0
  replace qx1 := cell_below b3 qx1
  replace qx2 := cell_below b3 qx2
  replace qx3 := cell_below b3 qx3
  replace qx4 := cell_below b3 qx4
  replace qx5 := cell_below b3 qx5
  replace qx6 := cell_below b3 qx6
  go_wp2_with fail
  refine (toEntry_any _ _ _ _ _ _ _ _).mono ?_
  rintro e w4 ⟨rfl, b4⟩
  have t4 := below_trans t3 b4
  replace qx0 := cell_below b4 qx0
  replace qx1 := cell_below b4 qx1
  replace qx2 := cell_below b4 qx2
  replace qx3 := cell_below b4 qx3
  replace qx4 := cell_below b4 qx4
  replace qx5 := cell_below b4 qx5
  replace qx6 := cell_below b4 qx6
  go_wp2_with fail
  refine (implEntry_any x _ hsz.1 hsz.2).mono ?_
  rintro e w5 ⟨rfl, b5⟩
  have t5 := below_trans t4 b5
  replace qx0 := cell_below b5 qx0
  replace qx1 := cell_below b5 qx1
  replace qx2 := cell_below b5 qx2
  replace qx3 := cell_below b5 qx3
  replace qx4 := cell_below b5 qx4
  replace qx5 := cell_below b5 qx5
  replace qx6 := cell_below b5 qx6
  go_wp2
  go_ret
  exact ⟨rfl, t5⟩

set_option maxRecDepth 100000 in
theorem lifted (os : Os) (started : os.Started) (H : Type) (enc : TypeId × Value → H) :
    ReturnsInHanded {} Try.checked os 3 .any (Rows.fnExactIsValidEntrySpec.pre6 enc Try.prog Try.f3 Rows.fnExactIsValidEntryRow.domain false) (Rows.fnExactIsValidEntrySpec.post enc Try.prog Try.f3 false true false false) := by
  refine returnsInHanded_of_change (C := Try.checked) own started (by kernel_rfl) Try.func3
    (ChangeSpec.witness6 (enc := enc) (C := Try.checked) false ⟨#[], #[.agg #[.int .i64 0, .string ByteArray.empty, .string ByteArray.empty, .int .i64 0, .int .i64 0, .int .i64 0, .bool false]], []⟩ 8 (by kernel_rfl) (by kernel_rfl) (by kernel_rfl) (by kernel_rfl)) ?_
  intro W base args ds gs before hval0 hW hcnd _
  have hval : ∀ (j : Nat) t v, Try.f3.params[j]? = some t → args[j]? = some v → Value.okWide Try.prog W .any base t v := hval0
  have hW' := hW
  obtain ⟨p, q, hA0, hV, rfl, hfz, hnd⟩ := hW
  have hA : DataW.TrodAll enc Try.prog W 0 (fun _ => true) true Try.f3.params.toList args.toList ds p := hA0
  rw [Try.params3] at hA hval
  obtain ⟨v0, vs0, d0, ds0, p0, q0, hargs, rfl, rfl, h0, r0⟩ := trodAll_cons hA
  obtain ⟨rfl, rfl, rfl⟩ := trodAll_nil r0
  obtain rfl : args = #[v0] := by cases args; simp_all
  obtain ⟨rfl, rfl⟩ := trodVars_none hV
  obtain ⟨x0, rfl, g0⟩ := open_val (ec := enV) Try.underlying25 read_en (hval 0 25 v0 rfl rfl) h0
  refine (walk x0 W g0).mono fun e W' ⟨he, hb⟩ => ?_
  subst he
  exact ⟨_, rfl, law_post laidOut (by kernel_rfl) (by kernel_rfl) Try.underlying4 rfl hW' rfl rfl rfl hb⟩

theorem over : Rows.fnExactIsValidEntryRow.holds Try.pinned (OpenSpec.ofChange Rows.fnExactIsValidEntrySpec) :=
  OpenClaim.holds_of_wide 3 Try.f3 rfl rfl rfl rfl rfl rfl rfl ⟨rfl, rfl, rfl, rfl, rfl⟩ rfl rfl rfl rfl rfl (by kernel_rfl) Try.func3 (by kernel_rfl)
    (of_decide_eq_true (by kernel_rfl)) (by unfold Func.isWrapper; rw [if_neg (of_decide_eq_false (by kernel_rfl))]; exact ⟨rfl, rfl⟩)
    (fun os started H enc _ => lifted os started H enc)

theorem proved : Rows.FnExactIsValidEntrySaid :=
  over
#print axioms proved
end Go.Proofs.Ytflmokdeekjjiaa.fnExactIsValidEntry
