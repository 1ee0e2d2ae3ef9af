/-
  YthphjncgbaknnaaGreatDoorMinH: spec.ParseEntry, by contracts. (Printed by wip/gen/minh.py.)
-/
import Derived.Test.YthphjncgbaknnaaGreatDoorMinG
import Derived.Test.YthphjncgbaknnaaGreatDoorMinI
namespace Go.Proofs.YthphjncgbaknnaaGreatDoor
open Go Go.RowKit Go.Sort
set_option linter.unusedVariables false

set_option maxRecDepth 100000 in
set_option maxHeartbeats 4000000 in
theorem specParseEntry_any (s : ByteArray) (w : World) (hs : s.size ≤ 1048576) : Calls Tryz.prog 11 #[.string s] w fun e w' => e = .returned (.tuple #[.agg #[.int .i64 (parE s).1.kind, .string (parE s).1.who, .string (parE s).1.mo, .int .i64 (parE s).1.yes, .int .i64 (parE s).1.no, .int .i64 (parE s).1.ab, .bool (parE s).1.pa], .bool (parE s).2]) ∧ Below w.heap.size w w' := by
  have b0 := below_alloc (w := w) (.cells #[.int .i64 0, .string ⟨#[]⟩, .string ⟨#[]⟩, .int .i64 0, .int .i64 0, .int .i64 0, .bool false] 27)
  have orr : Own enV 7 (w.alloc (.cells #[.int .i64 0, .string ⟨#[]⟩, .string ⟨#[]⟩, .int .i64 0, .int .i64 0, .int .i64 0, .bool false] 27)) w.heap.size 27 (some ⟨w.heap.size, 0, none⟩) 1 1 [⟨0, ⟨#[]⟩, ⟨#[]⟩, 0, 0, 0, false⟩] := ⟨rfl, rfl, .inr ⟨_, _, _, rfl, Nat.le_refl _, heap_new rfl, by omega, by simp [maxLen], rfl, rfl⟩⟩
  go_enter Tryz.func11, Tryz.ntmps11
  go_wp2_with fail
  refine (l21Parse_any s _ hs).mono ?_
  rintro e w1 ⟨rfl, b1⟩
  have t1 := below_trans b0 b1
  replace orr := orr.below b1
  have z0 := orr.cell enV_len (i := 0) (j := 0) rfl rfl
  have z1 := orr.cell enV_len (i := 0) (j := 1) rfl rfl
  have z2 := orr.cell enV_len (i := 0) (j := 2) rfl rfl
  have z3 := orr.cell enV_len (i := 0) (j := 3) rfl rfl
  have z4 := orr.cell enV_len (i := 0) (j := 4) rfl rfl
  have z5 := orr.cell enV_len (i := 0) (j := 5) rfl rfl
  have z6 := orr.cell enV_len (i := 0) (j := 6) rfl rfl
  have f0 := orr.frozen 0
  have f1 := orr.frozen 1
  have f2 := orr.frozen 2
  have f3 := orr.frozen 3
  have f4 := orr.frozen 4
  have f5 := orr.frozen 5
  have f6 := orr.frozen 6
  simp only [Nat.zero_mul, Nat.zero_add] at z0 z1 z2 z3 z4 z5 z6
  go_wp2
  exact bodyPost_ret (v := .tuple #[.agg #[.int .i64 (parE s).1.kind, .string (parE s).1.who, .string (parE s).1.mo, .int .i64 (parE s).1.yes, .int .i64 (parE s).1.no, .int .i64 (parE s).1.ab, .bool (parE s).1.pa], .bool (parE s).2]) (by simp [results, Tryz.results11, go_sem, z0, z1, z2, z3, z4, z5, z6]) rfl ⟨rfl, (below_setCell (below_setCell (below_setCell (below_setCell (below_setCell (below_setCell (below_setCell t1 _ _ _ (Nat.le_refl _)) _ _ _ (Nat.le_refl _)) _ _ _ (Nat.le_refl _)) _ _ _ (Nat.le_refl _)) _ _ _ (Nat.le_refl _)) _ _ _ (Nat.le_refl _)) _ _ _ (Nat.le_refl _))⟩
end Go.Proofs.YthphjncgbaknnaaGreatDoor
