/-
  YthphjncgbaknnaaGreatDoorMinA: minutes: which entries and which lists of entries are valid, by contracts.
-/
import Derived.Test.YthphjncgbaknnaaGreatDoorWord
import Derived.BigQuiet
import Derived.Deep.QuietTactic
namespace Go.Proofs.YthphjncgbaknnaaGreatDoor
open Go Go.RowKit Go.Sort
set_option linter.unusedVariables false

/-- A valid entry. -/
def EnOK (e : EN) : Prop :=
  ((e.kind = 1 ∨ e.kind = 6) ∧ wordB e.who = true ∧ e.mo.toList = [] ∧ (e.yes = 0 ∧ e.no = 0 ∧ e.ab = 0) ∧ e.pa = false) ∨
  ((e.kind = 2 ∨ e.kind = 3) ∧ wordB e.who = true ∧ wordB e.mo = true ∧ (e.yes = 0 ∧ e.no = 0 ∧ e.ab = 0) ∧ e.pa = false) ∨
  (e.kind = 4 ∧ e.who.toList = [] ∧ wordB e.mo = true ∧ (0 ≤ e.yes ∧ e.yes ≤ 1000) ∧ (0 ≤ e.no ∧ e.no ≤ 1000) ∧ (0 ≤ e.ab ∧ e.ab ≤ 1000)) ∨
  (e.kind = 5 ∧ wordB e.who = true ∧ wordB e.mo = true ∧ (e.yes = 0 ∧ e.no = 0 ∧ e.ab = 0))
instance (e : EN) : Decidable (EnOK e) := by unfold EnOK; infer_instance
def enOK (e : EN) : Bool := decide (EnOK e)

/-- A tally's numbers. -/
def taB (a b c : Int) : Bool := decide ((0 ≤ a ∧ a ≤ 1000) ∧ (0 ≤ b ∧ b ≤ 1000) ∧ (0 ≤ c ∧ c ≤ 1000))
theorem l11Good_any (a b c : Int) (w : World) : Calls Tryz.prog 41 #[.agg #[.int .i64 a, .int .i64 b, .int .i64 c]] w fun e w' => e = .returned (.bool (taB a b c)) ∧ Below w.heap.size w w' := by
  go_enter Tryz.func41, Tryz.ntmps41
  go_wp2
  all_goals go_ret
  all_goals exact ⟨ret_bool (by rw [Bool.eq_iff_iff]; first | (simp [taB]; done) | (simp [taB]; omega) | (simp_all [taB]; done) | (simp_all [taB]; omega)), below_alloc _⟩

set_option maxRecDepth 100000 in
set_option maxHeartbeats 2000000 in
theorem implEntry_any (x : EN) (w : World) (h0 : x.who.size ≤ maxLen) (h1 : x.mo.size ≤ maxLen) :
    Calls Tryz.prog 8 #[.agg #[.int .i64 x.kind, .string x.who, .string x.mo, .int .i64 x.yes, .int .i64 x.no, .int .i64 x.ab, .bool x.pa]] w fun e w' => e = .returned (.bool (enOK x)) ∧ Below w.heap.size w w' := by
  obtain ⟨kind, who, mo, yes, no, ab, pa⟩ := x
  go_enter Tryz.func8, Tryz.ntmps8
  go_wp2_with fail
  go_quiet ((go_at_call 23; exact Calls.quiet_of_same (isWord_any _ _ (by first | exact h0 | exact h1))))
  go_wp2
  all_goals go_ret
  all_goals exact ⟨ret_bool (by rw [Bool.eq_iff_iff]; first | (simp_all [enOK, EnOK]; done) | (simp_all [enOK, EnOK]; omega) | (cases pa <;> simp_all [enOK, EnOK] <;> omega)), by first | exact below_drewN (below_alloc _) _ | exact below_trans (below_drewN (below_alloc _) _) (below_alloc _) | exact below_trans (below_drewN (below_alloc _) _) (below_alloc2 _ _) | exact below_alloc _ | exact below_alloc2 _ _ | exact below_alloc3 _ _ _⟩

set_option maxRecDepth 100000 in
set_option maxHeartbeats 4000000 in
theorem l21One_any (x : EN) (w : World) (h0 : x.who.size ≤ maxLen) (h1 : x.mo.size ≤ maxLen) :
    Calls Tryz.prog 21 #[.agg #[.int .i64 x.kind, .string x.who, .string x.mo, .int .i64 x.yes, .int .i64 x.no, .int .i64 x.ab, .bool x.pa]] w fun e w' => e = .returned (.bool (enOK x)) ∧ Below w.heap.size w w' := by
  obtain ⟨kind, who, mo, yes, no, ab, pa⟩ := x
  go_enter Tryz.func21, Tryz.ntmps21
  go_wp2_with (first
    | (go_at_call 40; refine (l2Word_any _ _ (by first | exact h0 | exact h1)).mono ?_; rintro e w1 ⟨rfl, rfl⟩)
    | (go_at_call 41; refine (l11Good_any _ _ _ _).mono ?_; rintro e w1 ⟨rfl, hb1⟩; have e3 : w1.cell? ⟨w.heap.size, 3, none⟩ = some (.int .i64 yes) := (hb1.cell (p := ⟨w.heap.size, 3, none⟩) (by simp)).trans (cell_of_row _ _ 3 _ _ _ (heap_new rfl)); have e4 : w1.cell? ⟨w.heap.size, 4, none⟩ = some (.int .i64 no) := (hb1.cell (p := ⟨w.heap.size, 4, none⟩) (by simp)).trans (cell_of_row _ _ 4 _ _ _ (heap_new rfl)); have e5 : w1.cell? ⟨w.heap.size, 5, none⟩ = some (.int .i64 ab) := (hb1.cell (p := ⟨w.heap.size, 5, none⟩) (by simp)).trans (cell_of_row _ _ 5 _ _ _ (heap_new rfl))))
  all_goals go_ret
  all_goals exact ⟨ret_bool (by rw [Bool.eq_iff_iff]; first | (simp_all [enOK, EnOK, taB]; done) | (simp_all [enOK, EnOK, taB]; omega) | (cases pa <;> simp_all [enOK, EnOK, taB] <;> omega)), by first | exact below_alloc _ | exact below_trans (below_alloc _) (by assumption)⟩

end Go.Proofs.YthphjncgbaknnaaGreatDoor
