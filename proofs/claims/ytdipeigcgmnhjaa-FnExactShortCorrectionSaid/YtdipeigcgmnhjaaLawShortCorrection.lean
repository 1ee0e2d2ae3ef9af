/- FnExactShortCorrection: for every list of lines and every two texts the program's ShortCorrection and the reference's return the same, the arguments are left as they were, and the result's memory is shared with nothing. No condition.
-/
import Derived.Test.YtdipeigcgmnhjaaRead
import Derived.Test.YtdipeigcgmnhjaaCorI
import Derived.HandedShaped
namespace Go.Proofs.Ytdipeigcgmnhjaa.fnExactShortCorrection
open Go Go.ChangeShapes Go.WideShapes Go.ChangeAt Go.RowKit Go.Sort
open Go.ChangeMaps (open_string)
set_option linter.unusedVariables false

theorem own : ownKnob Try.prog.godebug = none := by kernel_rfl
theorem laidOut : laidOutB Try.prog = true := by kernel_rfl

set_option maxRecDepth 100000 in
set_option maxHeartbeats 1000000 in
theorem walk (a b : ByteArray) (mx : Int) (w : World) (ga : a.size ≤ maxLen) (gb : b.size ≤ maxLen) (hM : w.cell? ⟨0, 0, none⟩ = some (.int .i64 mx)) :
    Calls Try.prog 4 #[.string a, .string b] w fun e w' => e = .returned (.bool true) ∧ Below w.heap.size w w' := by
  unfold maxLen at ga gb
  go_enter Try.func4, Try.ntmps4
  by_cases ha : (1048576 : Int) < a.size
  · go_wp2
    go_ret
    exact ⟨rfl, Below.refl _ _⟩
  by_cases hb : (1048576 : Int) < b.size
  · go_wp2
    go_ret
    exact ⟨rfl, Below.refl _ _⟩
  go_wp2_with fail
  refine (specShort_any a b _ (by omega) (by omega)).mono ?_
  rintro e w1 ⟨rfl, b1⟩
  have p1 : Below w1.heap.size w1 (w1.alloc (.cells #[.int .i64 (scC a b).line, .string (scC a b).old, .string (scC a b).new] 28)) := below_alloc _
  have q0 := fun i => cell_of_row (w1.alloc (.cells #[.int .i64 (scC a b).line, .string (scC a b).old, .string (scC a b).new] 28)) w1.heap.size i _ _ _ (heap_new rfl)
  have c0 : (w1.alloc (.cells #[.int .i64 (scC a b).line, .string (scC a b).old, .string (scC a b).new] 28)).cell? ⟨w1.heap.size, 0, none⟩ = some (.int .i64 (scC a b).line) := q0 0
  have c1 : (w1.alloc (.cells #[.int .i64 (scC a b).line, .string (scC a b).old, .string (scC a b).new] 28)).cell? ⟨w1.heap.size, 1, none⟩ = some (.string (scC a b).old) := q0 1
  have c2 : (w1.alloc (.cells #[.int .i64 (scC a b).line, .string (scC a b).old, .string (scC a b).new] 28)).cell? ⟨w1.heap.size, 2, none⟩ = some (.string (scC a b).new) := q0 2
  clear q0
  go_wp2_with fail
  generalize hw2 : w1.alloc (.cells #[.int .i64 (scC a b).line, .string (scC a b).old, .string (scC a b).new] 28) = w2 at *
  clear hw2
  have t2 := below_trans b1 p1
  refine (implShort_any a b mx _ (by omega) (by omega) (cell_below t2 hM)).mono ?_
  rintro e w3 ⟨rfl, b3⟩
  have t3 := below_trans t2 b3
  replace c0 := cell_below b3 c0
  replace c1 := cell_below b3 c1
  replace c2 := cell_below b3 c2
  have p3 : Below w3.heap.size w3 (w3.alloc (.cells #[.int .i64 (scC a b).line, .string (scC a b).old, .string (scC a b).new] 28)) := below_alloc _
  have q0 := fun i => cell_of_row (w3.alloc (.cells #[.int .i64 (scC a b).line, .string (scC a b).old, .string (scC a b).new] 28)) w3.heap.size i _ _ _ (heap_new rfl)
  have d0 : (w3.alloc (.cells #[.int .i64 (scC a b).line, .string (scC a b).old, .string (scC a b).new] 28)).cell? ⟨w3.heap.size, 0, none⟩ = some (.int .i64 (scC a b).line) := q0 0
  have d1 : (w3.alloc (.cells #[.int .i64 (scC a b).line, .string (scC a b).old, .string (scC a b).new] 28)).cell? ⟨w3.heap.size, 1, none⟩ = some (.string (scC a b).old) := q0 1
  have d2 : (w3.alloc (.cells #[.int .i64 (scC a b).line, .string (scC a b).old, .string (scC a b).new] 28)).cell? ⟨w3.heap.size, 2, none⟩ = some (.string (scC a b).new) := q0 2
  replace c0 := cell_below p3 c0
  replace c1 := cell_below p3 c1
  replace c2 := cell_below p3 c2
  clear q0
  go_wp2_with fail
  generalize hw4 : w3.alloc (.cells #[.int .i64 (scC a b).line, .string (scC a b).old, .string (scC a b).new] 28) = w4 at *
  clear hw4
  have t4 := below_trans t3 p3
  refine (eqCorrection_same _ _ _ _).mono ?_
  rintro e w5 ⟨rfl, b5⟩
  go_wp2
  go_ret
  exact ⟨rfl, below_trans t4 b5⟩

set_option maxRecDepth 100000 in
theorem lifted (os : Os) (started : os.Started) (H : Type) (enc : TypeId × Value → H) :
    ReturnsInHanded {} Try.checked os 4 .any (Rows.fnExactShortCorrectionSpec.pre6 enc Try.prog Try.f4 Rows.fnExactShortCorrectionRow.domain false) (Rows.fnExactShortCorrectionSpec.post enc Try.prog Try.f4 false true false false) := by
  refine returnsInHanded_of_change_shaped (C := Try.checked) own started (by kernel_rfl) Try.func4
    (ChangeSpec.witness6 (enc := enc) (C := Try.checked) false ⟨#[], #[.string ByteArray.empty, .string ByteArray.empty], []⟩ 8 (by kernel_rfl) (by kernel_rfl) (by kernel_rfl) (by kernel_rfl)) ?_
  intro W base args ds gs before hval0 hW hcnd _ hsh _
  have hval : ∀ (j : Nat) t v, Try.f4.params[j]? = some t → args[j]? = some v → Value.okWide Try.prog W .any base t v := hval0
  have hW' := hW
  obtain ⟨p, q, hA0, hV, rfl, hfz, hnd⟩ := hW
  have hA : DataW.TrodAll enc Try.prog W 0 (fun _ => true) true Try.f4.params.toList args.toList ds p := hA0
  rw [Try.params4] at hA hval
  obtain ⟨v0, vs0, d0, ds0, p0, q0, hargs, rfl, rfl, h0, r0⟩ := trodAll_cons hA
  obtain ⟨v1, vs1, d1, ds1, p1, q1, rfl, rfl, rfl, h1, r1⟩ := trodAll_cons r0
  obtain ⟨rfl, rfl, rfl⟩ := trodAll_nil r1
  obtain rfl : args = #[v0, v1] := by cases args; simp_all
  obtain ⟨rfl, rfl⟩ := trodVars_none hV
  obtain ⟨x0, rfl, -, -, w0⟩ := open_string Try.underlying9 (hval 0 9 v0 rfl rfl) h0
  obtain ⟨x1, rfl, -, -, w1⟩ := open_string Try.underlying9 (hval 1 9 v1 rfl rfl) h1
  obtain ⟨mx, hM⟩ := Try.laysM143.s1_3 W (show W.ShapedOpen Try.prog from hsh)
  refine (walk x0 x1 mx W w0 w1 hM).mono fun e W' ⟨he, hb⟩ => ?_
  subst he
  exact ⟨_, rfl, law_post laidOut (by kernel_rfl) (by kernel_rfl) Try.underlying4 rfl hW' rfl rfl rfl hb⟩

theorem over : Rows.fnExactShortCorrectionRow.holds Try.pinned (OpenSpec.ofChange Rows.fnExactShortCorrectionSpec) :=
  OpenClaim.holds_of_wide 4 Try.f4 rfl rfl rfl rfl rfl rfl rfl ⟨rfl, rfl, rfl, rfl, rfl⟩ rfl rfl rfl rfl rfl (by kernel_rfl) Try.func4 (by kernel_rfl)
    (of_decide_eq_true (by kernel_rfl)) (by unfold Func.isWrapper; rw [if_neg (of_decide_eq_false (by kernel_rfl))]; exact ⟨rfl, rfl⟩)
    (fun os started H enc _ => lifted os started H enc)

theorem proved : Rows.FnExactShortCorrectionSaid :=
  over
#print axioms proved
end Go.Proofs.Ytdipeigcgmnhjaa.fnExactShortCorrection
