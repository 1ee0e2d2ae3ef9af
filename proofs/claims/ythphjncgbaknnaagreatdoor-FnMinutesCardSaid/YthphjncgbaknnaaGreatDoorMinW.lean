/-
  YthphjncgbaknnaaGreatDoorMinW: the sentence of an entry, the reference's side (spec.l21Text), by contracts. (Printed by wip/gen/minw.py.)
-/
import Derived.Test.YthphjncgbaknnaaGreatDoorMinV
namespace Go.Proofs.YthphjncgbaknnaaGreatDoor
open Go Go.RowKit Go.Sort
set_option linter.unusedVariables false
set_option linter.unusedSimpArgs false

set_option maxRecDepth 100000 in
set_option maxHeartbeats 2000000 in
theorem specText_1 (who mo : ByteArray) (y n a : Int) (pa : Bool) (w : World) (h0 : 0 < who.size) (h1 : who.size ≤ 10) (h2 : mo.size ≤ 10) :
    Calls Tryz.prog 22 #[.agg #[.int .i64 1, .string who, .string mo, .int .i64 y, .int .i64 n, .int .i64 a, .bool pa]] w fun e w' => e = .returned (.string ((⟨#[84, 104, 101, 32, 99, 104, 97, 105, 114, 32]⟩ : ByteArray) ++ capS who ++ (⟨#[32, 111, 112, 101, 110, 101, 100, 32, 116, 104, 101, 32, 109, 101, 101, 116, 105, 110, 103, 46]⟩ : ByteArray))) ∧ Below w.heap.size w w' := by
  have hc := capS_size who
  have hW : Below w.heap.size w (w.alloc (.cells #[.int .i64 1, .string who, .string mo, .int .i64 y, .int .i64 n, .int .i64 a, .bool pa] 27)) := below_alloc _
  have q1 := cell_regrown (cell_of_row (w.alloc (.cells #[.int .i64 1, .string who, .string mo, .int .i64 y, .int .i64 n, .int .i64 a, .bool pa] 27)) w.heap.size 1 _ _ _ (heap_new rfl))
  have q2 := cell_regrown (cell_of_row (w.alloc (.cells #[.int .i64 1, .string who, .string mo, .int .i64 y, .int .i64 n, .int .i64 a, .bool pa] 27)) w.heap.size 2 _ _ _ (heap_new rfl))
  have q6 := cell_regrown (cell_of_row (w.alloc (.cells #[.int .i64 1, .string who, .string mo, .int .i64 y, .int .i64 n, .int .i64 a, .bool pa] 27)) w.heap.size 6 _ _ _ (heap_new rfl))
  have m0 : ((⟨#[84, 104, 101, 32, 99, 104, 97, 105, 114, 32]⟩ : ByteArray) ++ capS who).size ≤ maxLen := by simp only [ByteArray.size_append, sz_CH, sz_OP, sz_CL, sz_MV, sz_SE, sz_DOT, sz_RU, sz_INO, sz_OUTO, sz_MT, sz_WAS, sz_ADO, sz_REJ, sz_BY, szTo, szWith, szAbst, maxLen]; omega
  have m1 : ((⟨#[84, 104, 101, 32, 99, 104, 97, 105, 114, 32]⟩ : ByteArray) ++ capS who ++ (⟨#[32, 111, 112, 101, 110, 101, 100, 32, 116, 104, 101, 32, 109, 101, 101, 116, 105, 110, 103, 46]⟩ : ByteArray)).size ≤ maxLen := by simp only [ByteArray.size_append, sz_CH, sz_OP, sz_CL, sz_MV, sz_SE, sz_DOT, sz_RU, sz_INO, sz_OUTO, sz_MT, sz_WAS, sz_ADO, sz_REJ, sz_BY, szTo, szWith, szAbst, maxLen]; omega
  go_enter Tryz.func22, Tryz.ntmps22
  go_wp2_with fail
  refine (capital_any _ _ h0 (by omega)).mono ?_
  rintro e w1 ⟨rfl, b1⟩
  go_wp2
  go_ret
  exact ⟨rfl, below_trans hW b1⟩

set_option maxRecDepth 100000 in
set_option maxHeartbeats 2000000 in
theorem specText_2 (who mo : ByteArray) (y n a : Int) (pa : Bool) (w : World) (h0 : 0 < who.size) (h1 : who.size ≤ 10) (h2 : mo.size ≤ 10) :
    Calls Tryz.prog 22 #[.agg #[.int .i64 2, .string who, .string mo, .int .i64 y, .int .i64 n, .int .i64 a, .bool pa]] w fun e w' => e = .returned (.string (capS who ++ (⟨#[32, 109, 111, 118, 101, 100, 32, 116, 111, 32]⟩ : ByteArray) ++ mo ++ (⟨#[46]⟩ : ByteArray))) ∧ Below w.heap.size w w' := by
  have hc := capS_size who
  have hW : Below w.heap.size w (w.alloc (.cells #[.int .i64 2, .string who, .string mo, .int .i64 y, .int .i64 n, .int .i64 a, .bool pa] 27)) := below_alloc _
  have q1 := cell_regrown (cell_of_row (w.alloc (.cells #[.int .i64 2, .string who, .string mo, .int .i64 y, .int .i64 n, .int .i64 a, .bool pa] 27)) w.heap.size 1 _ _ _ (heap_new rfl))
  have q2 := cell_regrown (cell_of_row (w.alloc (.cells #[.int .i64 2, .string who, .string mo, .int .i64 y, .int .i64 n, .int .i64 a, .bool pa] 27)) w.heap.size 2 _ _ _ (heap_new rfl))
  have q6 := cell_regrown (cell_of_row (w.alloc (.cells #[.int .i64 2, .string who, .string mo, .int .i64 y, .int .i64 n, .int .i64 a, .bool pa] 27)) w.heap.size 6 _ _ _ (heap_new rfl))
  have m0 : (capS who ++ (⟨#[32, 109, 111, 118, 101, 100, 32, 116, 111, 32]⟩ : ByteArray)).size ≤ maxLen := by simp only [ByteArray.size_append, sz_CH, sz_OP, sz_CL, sz_MV, sz_SE, sz_DOT, sz_RU, sz_INO, sz_OUTO, sz_MT, sz_WAS, sz_ADO, sz_REJ, sz_BY, szTo, szWith, szAbst, maxLen]; omega
  have m1 : (capS who ++ (⟨#[32, 109, 111, 118, 101, 100, 32, 116, 111, 32]⟩ : ByteArray) ++ mo).size ≤ maxLen := by simp only [ByteArray.size_append, sz_CH, sz_OP, sz_CL, sz_MV, sz_SE, sz_DOT, sz_RU, sz_INO, sz_OUTO, sz_MT, sz_WAS, sz_ADO, sz_REJ, sz_BY, szTo, szWith, szAbst, maxLen]; omega
  have m2 : (capS who ++ (⟨#[32, 109, 111, 118, 101, 100, 32, 116, 111, 32]⟩ : ByteArray) ++ mo ++ (⟨#[46]⟩ : ByteArray)).size ≤ maxLen := by simp only [ByteArray.size_append, sz_CH, sz_OP, sz_CL, sz_MV, sz_SE, sz_DOT, sz_RU, sz_INO, sz_OUTO, sz_MT, sz_WAS, sz_ADO, sz_REJ, sz_BY, szTo, szWith, szAbst, maxLen]; omega
  go_enter Tryz.func22, Tryz.ntmps22
  go_wp2_with fail
  refine wp_region_quiet_below (by kernel_rfl) (by kernel_rfl) ?_
  repeat (go_big_quiet_step ((go_at_call 42; exact Calls.regrown_of (capital_any _ _ (by omega) (by omega)))))
  refine wpQuiet_nil ?_
  intro _ hw'
  obtain ⟨⟨dq, osq⟩, hw''⟩ := hw'
  subst hw''
  have r6 := q6 dq osq
  go_wp2
  go_ret
  exact ⟨rfl, below_grow hW dq osq⟩

set_option maxRecDepth 100000 in
set_option maxHeartbeats 2000000 in
theorem specText_3 (who mo : ByteArray) (y n a : Int) (pa : Bool) (w : World) (h0 : 0 < who.size) (h1 : who.size ≤ 10) (h2 : mo.size ≤ 10) :
    Calls Tryz.prog 22 #[.agg #[.int .i64 3, .string who, .string mo, .int .i64 y, .int .i64 n, .int .i64 a, .bool pa]] w fun e w' => e = .returned (.string (capS who ++ (⟨#[32, 115, 101, 99, 111, 110, 100, 101, 100, 32, 116, 104, 101, 32, 109, 111, 116, 105, 111, 110, 32, 116, 111, 32]⟩ : ByteArray) ++ mo ++ (⟨#[46]⟩ : ByteArray))) ∧ Below w.heap.size w w' := by
  have hc := capS_size who
  have hW : Below w.heap.size w (w.alloc (.cells #[.int .i64 3, .string who, .string mo, .int .i64 y, .int .i64 n, .int .i64 a, .bool pa] 27)) := below_alloc _
  have q1 := cell_regrown (cell_of_row (w.alloc (.cells #[.int .i64 3, .string who, .string mo, .int .i64 y, .int .i64 n, .int .i64 a, .bool pa] 27)) w.heap.size 1 _ _ _ (heap_new rfl))
  have q2 := cell_regrown (cell_of_row (w.alloc (.cells #[.int .i64 3, .string who, .string mo, .int .i64 y, .int .i64 n, .int .i64 a, .bool pa] 27)) w.heap.size 2 _ _ _ (heap_new rfl))
  have q6 := cell_regrown (cell_of_row (w.alloc (.cells #[.int .i64 3, .string who, .string mo, .int .i64 y, .int .i64 n, .int .i64 a, .bool pa] 27)) w.heap.size 6 _ _ _ (heap_new rfl))
  have m0 : (capS who ++ (⟨#[32, 115, 101, 99, 111, 110, 100, 101, 100, 32, 116, 104, 101, 32, 109, 111, 116, 105, 111, 110, 32, 116, 111, 32]⟩ : ByteArray)).size ≤ maxLen := by simp only [ByteArray.size_append, sz_CH, sz_OP, sz_CL, sz_MV, sz_SE, sz_DOT, sz_RU, sz_INO, sz_OUTO, sz_MT, sz_WAS, sz_ADO, sz_REJ, sz_BY, szTo, szWith, szAbst, maxLen]; omega
  have m1 : (capS who ++ (⟨#[32, 115, 101, 99, 111, 110, 100, 101, 100, 32, 116, 104, 101, 32, 109, 111, 116, 105, 111, 110, 32, 116, 111, 32]⟩ : ByteArray) ++ mo).size ≤ maxLen := by simp only [ByteArray.size_append, sz_CH, sz_OP, sz_CL, sz_MV, sz_SE, sz_DOT, sz_RU, sz_INO, sz_OUTO, sz_MT, sz_WAS, sz_ADO, sz_REJ, sz_BY, szTo, szWith, szAbst, maxLen]; omega
  have m2 : (capS who ++ (⟨#[32, 115, 101, 99, 111, 110, 100, 101, 100, 32, 116, 104, 101, 32, 109, 111, 116, 105, 111, 110, 32, 116, 111, 32]⟩ : ByteArray) ++ mo ++ (⟨#[46]⟩ : ByteArray)).size ≤ maxLen := by simp only [ByteArray.size_append, sz_CH, sz_OP, sz_CL, sz_MV, sz_SE, sz_DOT, sz_RU, sz_INO, sz_OUTO, sz_MT, sz_WAS, sz_ADO, sz_REJ, sz_BY, szTo, szWith, szAbst, maxLen]; omega
  go_enter Tryz.func22, Tryz.ntmps22
  go_wp2_with fail
  refine wp_region_quiet_below (by kernel_rfl) (by kernel_rfl) ?_
  repeat (go_big_quiet_step ((go_at_call 42; exact Calls.regrown_of (capital_any _ _ (by omega) (by omega)))))
  refine wpQuiet_nil ?_
  intro _ hw'
  obtain ⟨⟨dq, osq⟩, hw''⟩ := hw'
  subst hw''
  have r6 := q6 dq osq
  go_wp2
  go_ret
  exact ⟨rfl, below_grow hW dq osq⟩

set_option maxRecDepth 100000 in
set_option maxHeartbeats 2000000 in
theorem specText_6 (who mo : ByteArray) (y n a : Int) (pa : Bool) (w : World) (h0 : 0 < who.size) (h1 : who.size ≤ 10) (h2 : mo.size ≤ 10) :
    Calls Tryz.prog 22 #[.agg #[.int .i64 6, .string who, .string mo, .int .i64 y, .int .i64 n, .int .i64 a, .bool pa]] w fun e w' => e = .returned (.string ((⟨#[84, 104, 101, 32, 99, 104, 97, 105, 114, 32]⟩ : ByteArray) ++ capS who ++ (⟨#[32, 99, 108, 111, 115, 101, 100, 32, 116, 104, 101, 32, 109, 101, 101, 116, 105, 110, 103, 46]⟩ : ByteArray))) ∧ Below w.heap.size w w' := by
  have hc := capS_size who
  have hW : Below w.heap.size w (w.alloc (.cells #[.int .i64 6, .string who, .string mo, .int .i64 y, .int .i64 n, .int .i64 a, .bool pa] 27)) := below_alloc _
  have q1 := cell_regrown (cell_of_row (w.alloc (.cells #[.int .i64 6, .string who, .string mo, .int .i64 y, .int .i64 n, .int .i64 a, .bool pa] 27)) w.heap.size 1 _ _ _ (heap_new rfl))
  have q2 := cell_regrown (cell_of_row (w.alloc (.cells #[.int .i64 6, .string who, .string mo, .int .i64 y, .int .i64 n, .int .i64 a, .bool pa] 27)) w.heap.size 2 _ _ _ (heap_new rfl))
  have q6 := cell_regrown (cell_of_row (w.alloc (.cells #[.int .i64 6, .string who, .string mo, .int .i64 y, .int .i64 n, .int .i64 a, .bool pa] 27)) w.heap.size 6 _ _ _ (heap_new rfl))
  have m0 : ((⟨#[84, 104, 101, 32, 99, 104, 97, 105, 114, 32]⟩ : ByteArray) ++ capS who).size ≤ maxLen := by simp only [ByteArray.size_append, sz_CH, sz_OP, sz_CL, sz_MV, sz_SE, sz_DOT, sz_RU, sz_INO, sz_OUTO, sz_MT, sz_WAS, sz_ADO, sz_REJ, sz_BY, szTo, szWith, szAbst, maxLen]; omega
  have m1 : ((⟨#[84, 104, 101, 32, 99, 104, 97, 105, 114, 32]⟩ : ByteArray) ++ capS who ++ (⟨#[32, 99, 108, 111, 115, 101, 100, 32, 116, 104, 101, 32, 109, 101, 101, 116, 105, 110, 103, 46]⟩ : ByteArray)).size ≤ maxLen := by simp only [ByteArray.size_append, sz_CH, sz_OP, sz_CL, sz_MV, sz_SE, sz_DOT, sz_RU, sz_INO, sz_OUTO, sz_MT, sz_WAS, sz_ADO, sz_REJ, sz_BY, szTo, szWith, szAbst, maxLen]; omega
  go_enter Tryz.func22, Tryz.ntmps22
  go_wp2_with fail
  refine (capital_any _ _ h0 (by omega)).mono ?_
  rintro e w1 ⟨rfl, b1⟩
  go_wp2
  go_ret
  exact ⟨rfl, below_trans hW b1⟩

set_option maxRecDepth 100000 in
set_option maxHeartbeats 2000000 in
theorem specText_5t (who mo : ByteArray) (y n a : Int) (pa : Bool) (w : World) (h0 : 0 < who.size) (h1 : who.size ≤ 10) (h2 : mo.size ≤ 10) :
    Calls Tryz.prog 22 #[.agg #[.int .i64 5, .string who, .string mo, .int .i64 y, .int .i64 n, .int .i64 a, .bool true]] w fun e w' => e = .returned (.string ((⟨#[84, 104, 101, 32, 99, 104, 97, 105, 114, 32]⟩ : ByteArray) ++ capS who ++ (⟨#[32, 114, 117, 108, 101, 100, 32, 116, 104, 101, 32, 109, 111, 116, 105, 111, 110, 32, 116, 111, 32]⟩ : ByteArray) ++ mo ++ (⟨#[32, 105, 110, 32, 111, 114, 100, 101, 114, 46]⟩ : ByteArray))) ∧ Below w.heap.size w w' := by
  have hc := capS_size who
  have hW : Below w.heap.size w (w.alloc (.cells #[.int .i64 5, .string who, .string mo, .int .i64 y, .int .i64 n, .int .i64 a, .bool true] 27)) := below_alloc _
  have q1 := cell_regrown (cell_of_row (w.alloc (.cells #[.int .i64 5, .string who, .string mo, .int .i64 y, .int .i64 n, .int .i64 a, .bool true] 27)) w.heap.size 1 _ _ _ (heap_new rfl))
  have q2 := cell_regrown (cell_of_row (w.alloc (.cells #[.int .i64 5, .string who, .string mo, .int .i64 y, .int .i64 n, .int .i64 a, .bool true] 27)) w.heap.size 2 _ _ _ (heap_new rfl))
  have q6 := cell_regrown (cell_of_row (w.alloc (.cells #[.int .i64 5, .string who, .string mo, .int .i64 y, .int .i64 n, .int .i64 a, .bool true] 27)) w.heap.size 6 _ _ _ (heap_new rfl))
  have m0 : ((⟨#[84, 104, 101, 32, 99, 104, 97, 105, 114, 32]⟩ : ByteArray) ++ capS who).size ≤ maxLen := by simp only [ByteArray.size_append, sz_CH, sz_OP, sz_CL, sz_MV, sz_SE, sz_DOT, sz_RU, sz_INO, sz_OUTO, sz_MT, sz_WAS, sz_ADO, sz_REJ, sz_BY, szTo, szWith, szAbst, maxLen]; omega
  have m1 : ((⟨#[84, 104, 101, 32, 99, 104, 97, 105, 114, 32]⟩ : ByteArray) ++ capS who ++ (⟨#[32, 114, 117, 108, 101, 100, 32, 116, 104, 101, 32, 109, 111, 116, 105, 111, 110, 32, 116, 111, 32]⟩ : ByteArray)).size ≤ maxLen := by simp only [ByteArray.size_append, sz_CH, sz_OP, sz_CL, sz_MV, sz_SE, sz_DOT, sz_RU, sz_INO, sz_OUTO, sz_MT, sz_WAS, sz_ADO, sz_REJ, sz_BY, szTo, szWith, szAbst, maxLen]; omega
  have m2 : ((⟨#[84, 104, 101, 32, 99, 104, 97, 105, 114, 32]⟩ : ByteArray) ++ capS who ++ (⟨#[32, 114, 117, 108, 101, 100, 32, 116, 104, 101, 32, 109, 111, 116, 105, 111, 110, 32, 116, 111, 32]⟩ : ByteArray) ++ mo).size ≤ maxLen := by simp only [ByteArray.size_append, sz_CH, sz_OP, sz_CL, sz_MV, sz_SE, sz_DOT, sz_RU, sz_INO, sz_OUTO, sz_MT, sz_WAS, sz_ADO, sz_REJ, sz_BY, szTo, szWith, szAbst, maxLen]; omega
  have m3 : ((⟨#[84, 104, 101, 32, 99, 104, 97, 105, 114, 32]⟩ : ByteArray) ++ capS who ++ (⟨#[32, 114, 117, 108, 101, 100, 32, 116, 104, 101, 32, 109, 111, 116, 105, 111, 110, 32, 116, 111, 32]⟩ : ByteArray) ++ mo ++ (⟨#[32, 105, 110, 32, 111, 114, 100, 101, 114, 46]⟩ : ByteArray)).size ≤ maxLen := by simp only [ByteArray.size_append, sz_CH, sz_OP, sz_CL, sz_MV, sz_SE, sz_DOT, sz_RU, sz_INO, sz_OUTO, sz_MT, sz_WAS, sz_ADO, sz_REJ, sz_BY, szTo, szWith, szAbst, maxLen]; omega
  go_enter Tryz.func22, Tryz.ntmps22
  go_wp2_with fail
  refine wp_region_quiet_below (by kernel_rfl) (by kernel_rfl) ?_
  repeat (go_big_quiet_step ((go_at_call 42; exact Calls.regrown_of (capital_any _ _ (by omega) (by omega)))))
  refine wpQuiet_nil ?_
  intro _ hw'
  obtain ⟨⟨dq, osq⟩, hw''⟩ := hw'
  subst hw''
  have r6 := q6 dq osq
  go_wp2
  go_ret
  exact ⟨rfl, below_grow hW dq osq⟩

set_option maxRecDepth 100000 in
set_option maxHeartbeats 2000000 in
theorem specText_5f (who mo : ByteArray) (y n a : Int) (pa : Bool) (w : World) (h0 : 0 < who.size) (h1 : who.size ≤ 10) (h2 : mo.size ≤ 10) :
    Calls Tryz.prog 22 #[.agg #[.int .i64 5, .string who, .string mo, .int .i64 y, .int .i64 n, .int .i64 a, .bool false]] w fun e w' => e = .returned (.string ((⟨#[84, 104, 101, 32, 99, 104, 97, 105, 114, 32]⟩ : ByteArray) ++ capS who ++ (⟨#[32, 114, 117, 108, 101, 100, 32, 116, 104, 101, 32, 109, 111, 116, 105, 111, 110, 32, 116, 111, 32]⟩ : ByteArray) ++ mo ++ (⟨#[32, 111, 117, 116, 32, 111, 102, 32, 111, 114, 100, 101, 114, 46]⟩ : ByteArray))) ∧ Below w.heap.size w w' := by
  have hc := capS_size who
  have hW : Below w.heap.size w (w.alloc (.cells #[.int .i64 5, .string who, .string mo, .int .i64 y, .int .i64 n, .int .i64 a, .bool false] 27)) := below_alloc _
  have q1 := cell_regrown (cell_of_row (w.alloc (.cells #[.int .i64 5, .string who, .string mo, .int .i64 y, .int .i64 n, .int .i64 a, .bool false] 27)) w.heap.size 1 _ _ _ (heap_new rfl))
  have q2 := cell_regrown (cell_of_row (w.alloc (.cells #[.int .i64 5, .string who, .string mo, .int .i64 y, .int .i64 n, .int .i64 a, .bool false] 27)) w.heap.size 2 _ _ _ (heap_new rfl))
  have q6 := cell_regrown (cell_of_row (w.alloc (.cells #[.int .i64 5, .string who, .string mo, .int .i64 y, .int .i64 n, .int .i64 a, .bool false] 27)) w.heap.size 6 _ _ _ (heap_new rfl))
  have m0 : ((⟨#[84, 104, 101, 32, 99, 104, 97, 105, 114, 32]⟩ : ByteArray) ++ capS who).size ≤ maxLen := by simp only [ByteArray.size_append, sz_CH, sz_OP, sz_CL, sz_MV, sz_SE, sz_DOT, sz_RU, sz_INO, sz_OUTO, sz_MT, sz_WAS, sz_ADO, sz_REJ, sz_BY, szTo, szWith, szAbst, maxLen]; omega
  have m1 : ((⟨#[84, 104, 101, 32, 99, 104, 97, 105, 114, 32]⟩ : ByteArray) ++ capS who ++ (⟨#[32, 114, 117, 108, 101, 100, 32, 116, 104, 101, 32, 109, 111, 116, 105, 111, 110, 32, 116, 111, 32]⟩ : ByteArray)).size ≤ maxLen := by simp only [ByteArray.size_append, sz_CH, sz_OP, sz_CL, sz_MV, sz_SE, sz_DOT, sz_RU, sz_INO, sz_OUTO, sz_MT, sz_WAS, sz_ADO, sz_REJ, sz_BY, szTo, szWith, szAbst, maxLen]; omega
  have m2 : ((⟨#[84, 104, 101, 32, 99, 104, 97, 105, 114, 32]⟩ : ByteArray) ++ capS who ++ (⟨#[32, 114, 117, 108, 101, 100, 32, 116, 104, 101, 32, 109, 111, 116, 105, 111, 110, 32, 116, 111, 32]⟩ : ByteArray) ++ mo).size ≤ maxLen := by simp only [ByteArray.size_append, sz_CH, sz_OP, sz_CL, sz_MV, sz_SE, sz_DOT, sz_RU, sz_INO, sz_OUTO, sz_MT, sz_WAS, sz_ADO, sz_REJ, sz_BY, szTo, szWith, szAbst, maxLen]; omega
  have m3 : ((⟨#[84, 104, 101, 32, 99, 104, 97, 105, 114, 32]⟩ : ByteArray) ++ capS who ++ (⟨#[32, 114, 117, 108, 101, 100, 32, 116, 104, 101, 32, 109, 111, 116, 105, 111, 110, 32, 116, 111, 32]⟩ : ByteArray) ++ mo ++ (⟨#[32, 111, 117, 116, 32, 111, 102, 32, 111, 114, 100, 101, 114, 46]⟩ : ByteArray)).size ≤ maxLen := by simp only [ByteArray.size_append, sz_CH, sz_OP, sz_CL, sz_MV, sz_SE, sz_DOT, sz_RU, sz_INO, sz_OUTO, sz_MT, sz_WAS, sz_ADO, sz_REJ, sz_BY, szTo, szWith, szAbst, maxLen]; omega
  go_enter Tryz.func22, Tryz.ntmps22
  go_wp2_with fail
  refine wp_region_quiet_below (by kernel_rfl) (by kernel_rfl) ?_
  repeat (go_big_quiet_step ((go_at_call 42; exact Calls.regrown_of (capital_any _ _ (by omega) (by omega)))))
  refine wpQuiet_nil ?_
  intro _ hw'
  obtain ⟨⟨dq, osq⟩, hw''⟩ := hw'
  subst hw''
  have r6 := q6 dq osq
  go_wp2
  go_ret
  exact ⟨rfl, below_grow hW dq osq⟩

theorem l1Num_int' (x : Int) (w : World) (h0 : 0 ≤ x) (h1 : x < 1000000000000) :
    Calls Tryz.prog 43 #[.int .i64 x] w fun e w' => e = .returned (.string (numS x.toNat)) ∧ Below w.heap.size w w' := by
  obtain ⟨n, rfl⟩ := Int.eq_ofNat_of_zero_le h0
  exact l1Num_any n w (by omega)

set_option maxRecDepth 100000 in
set_option maxHeartbeats 2000000 in
theorem specText_4ty (who mo : ByteArray) (y n a : Int) (w : World) (h2 : mo.size ≤ 10) (k0 : 0 ≤ y ∧ y ≤ 1000) (k1 : 0 ≤ n ∧ n ≤ 1000) (k2 : 0 ≤ a ∧ a ≤ 1000) (hab :  0 < a) :
    Calls Tryz.prog 22 #[.agg #[.int .i64 4, .string who, .string mo, .int .i64 y, .int .i64 n, .int .i64 a, .bool true]] w fun e w' => e = .returned (.string ((⟨#[84, 104, 101, 32, 109, 111, 116, 105, 111, 110, 32, 116, 111, 32]⟩ : ByteArray) ++ mo ++ (⟨#[32, 119, 97, 115, 32]⟩ : ByteArray) ++ (⟨#[97, 100, 111, 112, 116, 101, 100]⟩ : ByteArray) ++ (⟨#[32, 98, 121, 32]⟩ : ByteArray) ++ votS y n a ++ (⟨#[46]⟩ : ByteArray))) ∧ Below w.heap.size w w' := by
  have E : Hid ((⟨#[84, 104, 101, 32, 109, 111, 116, 105, 111, 110, 32, 116, 111, 32]⟩ : ByteArray) ++ mo ++ (⟨#[32, 119, 97, 115, 32]⟩ : ByteArray) ++ (⟨#[97, 100, 111, 112, 116, 101, 100]⟩ : ByteArray) ++ (⟨#[32, 98, 121, 32]⟩ : ByteArray) ++ votS y n a ++ (⟨#[46]⟩ : ByteArray) = (⟨#[84, 104, 101, 32, 109, 111, 116, 105, 111, 110, 32, 116, 111, 32]⟩ : ByteArray) ++ mo ++ (⟨#[32, 119, 97, 115, 32]⟩ : ByteArray) ++ (⟨#[97, 100, 111, 112, 116, 101, 100]⟩ : ByteArray) ++ (⟨#[32, 98, 121, 32]⟩ : ByteArray) ++ numS y.toNat ++ (⟨#[32, 116, 111, 32]⟩ : ByteArray) ++ numS n.toNat ++ (⟨#[32, 119, 105, 116, 104, 32]⟩ : ByteArray) ++ numS a.toNat ++ (⟨#[32, 97, 98, 115, 116, 97, 105, 110, 105, 110, 103]⟩ : ByteArray) ++ (⟨#[46]⟩ : ByteArray)) := by show _ = _; rw [votS_yes hab]; simp only [ByteArray.append_assoc]
  have z0 := numS_size (n := y.toNat) (by omega)
  have z1 := numS_size (n := n.toNat) (by omega)
  have z2 := numS_size (n := a.toNat) (by omega)
  obtain ⟨y0, y1⟩ := k0
  obtain ⟨n0, n1⟩ := k1
  obtain ⟨a0, a1⟩ := k2
  have hW : Below w.heap.size w (w.alloc (.cells #[.int .i64 4, .string who, .string mo, .int .i64 y, .int .i64 n, .int .i64 a, .bool true] 27)) := below_alloc _
  have q3 := cell_regrown (cell_of_row (w.alloc (.cells #[.int .i64 4, .string who, .string mo, .int .i64 y, .int .i64 n, .int .i64 a, .bool true] 27)) w.heap.size 3 _ _ _ (heap_new rfl))
  have q4 := cell_regrown (cell_of_row (w.alloc (.cells #[.int .i64 4, .string who, .string mo, .int .i64 y, .int .i64 n, .int .i64 a, .bool true] 27)) w.heap.size 4 _ _ _ (heap_new rfl))
  have q5 := cell_regrown (cell_of_row (w.alloc (.cells #[.int .i64 4, .string who, .string mo, .int .i64 y, .int .i64 n, .int .i64 a, .bool true] 27)) w.heap.size 5 _ _ _ (heap_new rfl))
  have m0 : ((⟨#[84, 104, 101, 32, 109, 111, 116, 105, 111, 110, 32, 116, 111, 32]⟩ : ByteArray) ++ mo).size ≤ maxLen := by simp only [ByteArray.size_append, sz_CH, sz_OP, sz_CL, sz_MV, sz_SE, sz_DOT, sz_RU, sz_INO, sz_OUTO, sz_MT, sz_WAS, sz_ADO, sz_REJ, sz_BY, szTo, szWith, szAbst, maxLen]; omega
  have m1 : ((⟨#[84, 104, 101, 32, 109, 111, 116, 105, 111, 110, 32, 116, 111, 32]⟩ : ByteArray) ++ mo ++ (⟨#[32, 119, 97, 115, 32]⟩ : ByteArray)).size ≤ maxLen := by simp only [ByteArray.size_append, sz_CH, sz_OP, sz_CL, sz_MV, sz_SE, sz_DOT, sz_RU, sz_INO, sz_OUTO, sz_MT, sz_WAS, sz_ADO, sz_REJ, sz_BY, szTo, szWith, szAbst, maxLen]; omega
  have m2 : ((⟨#[84, 104, 101, 32, 109, 111, 116, 105, 111, 110, 32, 116, 111, 32]⟩ : ByteArray) ++ mo ++ (⟨#[32, 119, 97, 115, 32]⟩ : ByteArray) ++ (⟨#[97, 100, 111, 112, 116, 101, 100]⟩ : ByteArray)).size ≤ maxLen := by simp only [ByteArray.size_append, sz_CH, sz_OP, sz_CL, sz_MV, sz_SE, sz_DOT, sz_RU, sz_INO, sz_OUTO, sz_MT, sz_WAS, sz_ADO, sz_REJ, sz_BY, szTo, szWith, szAbst, maxLen]; omega
  have m3 : ((⟨#[84, 104, 101, 32, 109, 111, 116, 105, 111, 110, 32, 116, 111, 32]⟩ : ByteArray) ++ mo ++ (⟨#[32, 119, 97, 115, 32]⟩ : ByteArray) ++ (⟨#[97, 100, 111, 112, 116, 101, 100]⟩ : ByteArray) ++ (⟨#[32, 98, 121, 32]⟩ : ByteArray)).size ≤ maxLen := by simp only [ByteArray.size_append, sz_CH, sz_OP, sz_CL, sz_MV, sz_SE, sz_DOT, sz_RU, sz_INO, sz_OUTO, sz_MT, sz_WAS, sz_ADO, sz_REJ, sz_BY, szTo, szWith, szAbst, maxLen]; omega
  have m4 : ((⟨#[84, 104, 101, 32, 109, 111, 116, 105, 111, 110, 32, 116, 111, 32]⟩ : ByteArray) ++ mo ++ (⟨#[32, 119, 97, 115, 32]⟩ : ByteArray) ++ (⟨#[97, 100, 111, 112, 116, 101, 100]⟩ : ByteArray) ++ (⟨#[32, 98, 121, 32]⟩ : ByteArray) ++ numS y.toNat).size ≤ maxLen := by simp only [ByteArray.size_append, sz_CH, sz_OP, sz_CL, sz_MV, sz_SE, sz_DOT, sz_RU, sz_INO, sz_OUTO, sz_MT, sz_WAS, sz_ADO, sz_REJ, sz_BY, szTo, szWith, szAbst, maxLen]; omega
  have m5 : ((⟨#[84, 104, 101, 32, 109, 111, 116, 105, 111, 110, 32, 116, 111, 32]⟩ : ByteArray) ++ mo ++ (⟨#[32, 119, 97, 115, 32]⟩ : ByteArray) ++ (⟨#[97, 100, 111, 112, 116, 101, 100]⟩ : ByteArray) ++ (⟨#[32, 98, 121, 32]⟩ : ByteArray) ++ numS y.toNat ++ (⟨#[32, 116, 111, 32]⟩ : ByteArray)).size ≤ maxLen := by simp only [ByteArray.size_append, sz_CH, sz_OP, sz_CL, sz_MV, sz_SE, sz_DOT, sz_RU, sz_INO, sz_OUTO, sz_MT, sz_WAS, sz_ADO, sz_REJ, sz_BY, szTo, szWith, szAbst, maxLen]; omega
  have m6 : ((⟨#[84, 104, 101, 32, 109, 111, 116, 105, 111, 110, 32, 116, 111, 32]⟩ : ByteArray) ++ mo ++ (⟨#[32, 119, 97, 115, 32]⟩ : ByteArray) ++ (⟨#[97, 100, 111, 112, 116, 101, 100]⟩ : ByteArray) ++ (⟨#[32, 98, 121, 32]⟩ : ByteArray) ++ numS y.toNat ++ (⟨#[32, 116, 111, 32]⟩ : ByteArray) ++ numS n.toNat).size ≤ maxLen := by simp only [ByteArray.size_append, sz_CH, sz_OP, sz_CL, sz_MV, sz_SE, sz_DOT, sz_RU, sz_INO, sz_OUTO, sz_MT, sz_WAS, sz_ADO, sz_REJ, sz_BY, szTo, szWith, szAbst, maxLen]; omega
  have m7 : ((⟨#[84, 104, 101, 32, 109, 111, 116, 105, 111, 110, 32, 116, 111, 32]⟩ : ByteArray) ++ mo ++ (⟨#[32, 119, 97, 115, 32]⟩ : ByteArray) ++ (⟨#[97, 100, 111, 112, 116, 101, 100]⟩ : ByteArray) ++ (⟨#[32, 98, 121, 32]⟩ : ByteArray) ++ numS y.toNat ++ (⟨#[32, 116, 111, 32]⟩ : ByteArray) ++ numS n.toNat ++ (⟨#[32, 119, 105, 116, 104, 32]⟩ : ByteArray)).size ≤ maxLen := by simp only [ByteArray.size_append, sz_CH, sz_OP, sz_CL, sz_MV, sz_SE, sz_DOT, sz_RU, sz_INO, sz_OUTO, sz_MT, sz_WAS, sz_ADO, sz_REJ, sz_BY, szTo, szWith, szAbst, maxLen]; omega
  have m8 : ((⟨#[84, 104, 101, 32, 109, 111, 116, 105, 111, 110, 32, 116, 111, 32]⟩ : ByteArray) ++ mo ++ (⟨#[32, 119, 97, 115, 32]⟩ : ByteArray) ++ (⟨#[97, 100, 111, 112, 116, 101, 100]⟩ : ByteArray) ++ (⟨#[32, 98, 121, 32]⟩ : ByteArray) ++ numS y.toNat ++ (⟨#[32, 116, 111, 32]⟩ : ByteArray) ++ numS n.toNat ++ (⟨#[32, 119, 105, 116, 104, 32]⟩ : ByteArray) ++ numS a.toNat).size ≤ maxLen := by simp only [ByteArray.size_append, sz_CH, sz_OP, sz_CL, sz_MV, sz_SE, sz_DOT, sz_RU, sz_INO, sz_OUTO, sz_MT, sz_WAS, sz_ADO, sz_REJ, sz_BY, szTo, szWith, szAbst, maxLen]; omega
  have m9 : ((⟨#[84, 104, 101, 32, 109, 111, 116, 105, 111, 110, 32, 116, 111, 32]⟩ : ByteArray) ++ mo ++ (⟨#[32, 119, 97, 115, 32]⟩ : ByteArray) ++ (⟨#[97, 100, 111, 112, 116, 101, 100]⟩ : ByteArray) ++ (⟨#[32, 98, 121, 32]⟩ : ByteArray) ++ numS y.toNat ++ (⟨#[32, 116, 111, 32]⟩ : ByteArray) ++ numS n.toNat ++ (⟨#[32, 119, 105, 116, 104, 32]⟩ : ByteArray) ++ numS a.toNat ++ (⟨#[32, 97, 98, 115, 116, 97, 105, 110, 105, 110, 103]⟩ : ByteArray)).size ≤ maxLen := by simp only [ByteArray.size_append, sz_CH, sz_OP, sz_CL, sz_MV, sz_SE, sz_DOT, sz_RU, sz_INO, sz_OUTO, sz_MT, sz_WAS, sz_ADO, sz_REJ, sz_BY, szTo, szWith, szAbst, maxLen]; omega
  have m10 : ((⟨#[84, 104, 101, 32, 109, 111, 116, 105, 111, 110, 32, 116, 111, 32]⟩ : ByteArray) ++ mo ++ (⟨#[32, 119, 97, 115, 32]⟩ : ByteArray) ++ (⟨#[97, 100, 111, 112, 116, 101, 100]⟩ : ByteArray) ++ (⟨#[32, 98, 121, 32]⟩ : ByteArray) ++ numS y.toNat ++ (⟨#[32, 116, 111, 32]⟩ : ByteArray) ++ numS n.toNat ++ (⟨#[32, 119, 105, 116, 104, 32]⟩ : ByteArray) ++ numS a.toNat ++ (⟨#[32, 97, 98, 115, 116, 97, 105, 110, 105, 110, 103]⟩ : ByteArray) ++ (⟨#[46]⟩ : ByteArray)).size ≤ maxLen := by simp only [ByteArray.size_append, sz_CH, sz_OP, sz_CL, sz_MV, sz_SE, sz_DOT, sz_RU, sz_INO, sz_OUTO, sz_MT, sz_WAS, sz_ADO, sz_REJ, sz_BY, szTo, szWith, szAbst, maxLen]; omega
  go_enter Tryz.func22, Tryz.ntmps22
  go_wp2_with fail
  refine wp_region_quiet_below (by kernel_rfl) (by kernel_rfl) ?_
  repeat (go_big_quiet_step ((go_at_call 43; exact Calls.regrown_of (l1Num_int' _ _ (by omega) (by omega)))))
  refine wpQuiet_nil ?_
  intro _ hw'
  obtain ⟨⟨dq, osq⟩, hw''⟩ := hw'
  subst hw''
  have r5 := q5 dq osq
  go_wp2_with fail
  refine (l1Num_int' _ _ a0 (by omega)).mono ?_
  rintro e w3 ⟨rfl, b3⟩
  go_wp2
  go_ret
  exact ⟨ret_str E.out.symm, below_trans (below_grow hW dq osq) b3⟩

set_option maxRecDepth 100000 in
set_option maxHeartbeats 2000000 in
theorem specText_4tn (who mo : ByteArray) (y n a : Int) (w : World) (h2 : mo.size ≤ 10) (k0 : 0 ≤ y ∧ y ≤ 1000) (k1 : 0 ≤ n ∧ n ≤ 1000) (k2 : 0 ≤ a ∧ a ≤ 1000) (hab : ¬ 0 < a) :
    Calls Tryz.prog 22 #[.agg #[.int .i64 4, .string who, .string mo, .int .i64 y, .int .i64 n, .int .i64 a, .bool true]] w fun e w' => e = .returned (.string ((⟨#[84, 104, 101, 32, 109, 111, 116, 105, 111, 110, 32, 116, 111, 32]⟩ : ByteArray) ++ mo ++ (⟨#[32, 119, 97, 115, 32]⟩ : ByteArray) ++ (⟨#[97, 100, 111, 112, 116, 101, 100]⟩ : ByteArray) ++ (⟨#[32, 98, 121, 32]⟩ : ByteArray) ++ votS y n a ++ (⟨#[46]⟩ : ByteArray))) ∧ Below w.heap.size w w' := by
  have E : Hid ((⟨#[84, 104, 101, 32, 109, 111, 116, 105, 111, 110, 32, 116, 111, 32]⟩ : ByteArray) ++ mo ++ (⟨#[32, 119, 97, 115, 32]⟩ : ByteArray) ++ (⟨#[97, 100, 111, 112, 116, 101, 100]⟩ : ByteArray) ++ (⟨#[32, 98, 121, 32]⟩ : ByteArray) ++ votS y n a ++ (⟨#[46]⟩ : ByteArray) = (⟨#[84, 104, 101, 32, 109, 111, 116, 105, 111, 110, 32, 116, 111, 32]⟩ : ByteArray) ++ mo ++ (⟨#[32, 119, 97, 115, 32]⟩ : ByteArray) ++ (⟨#[97, 100, 111, 112, 116, 101, 100]⟩ : ByteArray) ++ (⟨#[32, 98, 121, 32]⟩ : ByteArray) ++ numS y.toNat ++ (⟨#[32, 116, 111, 32]⟩ : ByteArray) ++ numS n.toNat ++ (⟨#[46]⟩ : ByteArray)) := by show _ = _; rw [votS_no hab]; simp only [ByteArray.append_assoc]
  have z0 := numS_size (n := y.toNat) (by omega)
  have z1 := numS_size (n := n.toNat) (by omega)
  have z2 := numS_size (n := a.toNat) (by omega)
  obtain ⟨y0, y1⟩ := k0
  obtain ⟨n0, n1⟩ := k1
  obtain ⟨a0, a1⟩ := k2
  have hW : Below w.heap.size w (w.alloc (.cells #[.int .i64 4, .string who, .string mo, .int .i64 y, .int .i64 n, .int .i64 a, .bool true] 27)) := below_alloc _
  have q3 := cell_regrown (cell_of_row (w.alloc (.cells #[.int .i64 4, .string who, .string mo, .int .i64 y, .int .i64 n, .int .i64 a, .bool true] 27)) w.heap.size 3 _ _ _ (heap_new rfl))
  have q4 := cell_regrown (cell_of_row (w.alloc (.cells #[.int .i64 4, .string who, .string mo, .int .i64 y, .int .i64 n, .int .i64 a, .bool true] 27)) w.heap.size 4 _ _ _ (heap_new rfl))
  have q5 := cell_regrown (cell_of_row (w.alloc (.cells #[.int .i64 4, .string who, .string mo, .int .i64 y, .int .i64 n, .int .i64 a, .bool true] 27)) w.heap.size 5 _ _ _ (heap_new rfl))
  have m0 : ((⟨#[84, 104, 101, 32, 109, 111, 116, 105, 111, 110, 32, 116, 111, 32]⟩ : ByteArray) ++ mo).size ≤ maxLen := by simp only [ByteArray.size_append, sz_CH, sz_OP, sz_CL, sz_MV, sz_SE, sz_DOT, sz_RU, sz_INO, sz_OUTO, sz_MT, sz_WAS, sz_ADO, sz_REJ, sz_BY, szTo, szWith, szAbst, maxLen]; omega
  have m1 : ((⟨#[84, 104, 101, 32, 109, 111, 116, 105, 111, 110, 32, 116, 111, 32]⟩ : ByteArray) ++ mo ++ (⟨#[32, 119, 97, 115, 32]⟩ : ByteArray)).size ≤ maxLen := by simp only [ByteArray.size_append, sz_CH, sz_OP, sz_CL, sz_MV, sz_SE, sz_DOT, sz_RU, sz_INO, sz_OUTO, sz_MT, sz_WAS, sz_ADO, sz_REJ, sz_BY, szTo, szWith, szAbst, maxLen]; omega
  have m2 : ((⟨#[84, 104, 101, 32, 109, 111, 116, 105, 111, 110, 32, 116, 111, 32]⟩ : ByteArray) ++ mo ++ (⟨#[32, 119, 97, 115, 32]⟩ : ByteArray) ++ (⟨#[97, 100, 111, 112, 116, 101, 100]⟩ : ByteArray)).size ≤ maxLen := by simp only [ByteArray.size_append, sz_CH, sz_OP, sz_CL, sz_MV, sz_SE, sz_DOT, sz_RU, sz_INO, sz_OUTO, sz_MT, sz_WAS, sz_ADO, sz_REJ, sz_BY, szTo, szWith, szAbst, maxLen]; omega
  have m3 : ((⟨#[84, 104, 101, 32, 109, 111, 116, 105, 111, 110, 32, 116, 111, 32]⟩ : ByteArray) ++ mo ++ (⟨#[32, 119, 97, 115, 32]⟩ : ByteArray) ++ (⟨#[97, 100, 111, 112, 116, 101, 100]⟩ : ByteArray) ++ (⟨#[32, 98, 121, 32]⟩ : ByteArray)).size ≤ maxLen := by simp only [ByteArray.size_append, sz_CH, sz_OP, sz_CL, sz_MV, sz_SE, sz_DOT, sz_RU, sz_INO, sz_OUTO, sz_MT, sz_WAS, sz_ADO, sz_REJ, sz_BY, szTo, szWith, szAbst, maxLen]; omega
  have m4 : ((⟨#[84, 104, 101, 32, 109, 111, 116, 105, 111, 110, 32, 116, 111, 32]⟩ : ByteArray) ++ mo ++ (⟨#[32, 119, 97, 115, 32]⟩ : ByteArray) ++ (⟨#[97, 100, 111, 112, 116, 101, 100]⟩ : ByteArray) ++ (⟨#[32, 98, 121, 32]⟩ : ByteArray) ++ numS y.toNat).size ≤ maxLen := by simp only [ByteArray.size_append, sz_CH, sz_OP, sz_CL, sz_MV, sz_SE, sz_DOT, sz_RU, sz_INO, sz_OUTO, sz_MT, sz_WAS, sz_ADO, sz_REJ, sz_BY, szTo, szWith, szAbst, maxLen]; omega
  have m5 : ((⟨#[84, 104, 101, 32, 109, 111, 116, 105, 111, 110, 32, 116, 111, 32]⟩ : ByteArray) ++ mo ++ (⟨#[32, 119, 97, 115, 32]⟩ : ByteArray) ++ (⟨#[97, 100, 111, 112, 116, 101, 100]⟩ : ByteArray) ++ (⟨#[32, 98, 121, 32]⟩ : ByteArray) ++ numS y.toNat ++ (⟨#[32, 116, 111, 32]⟩ : ByteArray)).size ≤ maxLen := by simp only [ByteArray.size_append, sz_CH, sz_OP, sz_CL, sz_MV, sz_SE, sz_DOT, sz_RU, sz_INO, sz_OUTO, sz_MT, sz_WAS, sz_ADO, sz_REJ, sz_BY, szTo, szWith, szAbst, maxLen]; omega
  have m6 : ((⟨#[84, 104, 101, 32, 109, 111, 116, 105, 111, 110, 32, 116, 111, 32]⟩ : ByteArray) ++ mo ++ (⟨#[32, 119, 97, 115, 32]⟩ : ByteArray) ++ (⟨#[97, 100, 111, 112, 116, 101, 100]⟩ : ByteArray) ++ (⟨#[32, 98, 121, 32]⟩ : ByteArray) ++ numS y.toNat ++ (⟨#[32, 116, 111, 32]⟩ : ByteArray) ++ numS n.toNat).size ≤ maxLen := by simp only [ByteArray.size_append, sz_CH, sz_OP, sz_CL, sz_MV, sz_SE, sz_DOT, sz_RU, sz_INO, sz_OUTO, sz_MT, sz_WAS, sz_ADO, sz_REJ, sz_BY, szTo, szWith, szAbst, maxLen]; omega
  have m7 : ((⟨#[84, 104, 101, 32, 109, 111, 116, 105, 111, 110, 32, 116, 111, 32]⟩ : ByteArray) ++ mo ++ (⟨#[32, 119, 97, 115, 32]⟩ : ByteArray) ++ (⟨#[97, 100, 111, 112, 116, 101, 100]⟩ : ByteArray) ++ (⟨#[32, 98, 121, 32]⟩ : ByteArray) ++ numS y.toNat ++ (⟨#[32, 116, 111, 32]⟩ : ByteArray) ++ numS n.toNat ++ (⟨#[46]⟩ : ByteArray)).size ≤ maxLen := by simp only [ByteArray.size_append, sz_CH, sz_OP, sz_CL, sz_MV, sz_SE, sz_DOT, sz_RU, sz_INO, sz_OUTO, sz_MT, sz_WAS, sz_ADO, sz_REJ, sz_BY, szTo, szWith, szAbst, maxLen]; omega
  go_enter Tryz.func22, Tryz.ntmps22
  go_wp2_with fail
  refine wp_region_quiet_below (by kernel_rfl) (by kernel_rfl) ?_
  repeat (go_big_quiet_step ((go_at_call 43; exact Calls.regrown_of (l1Num_int' _ _ (by omega) (by omega)))))
  refine wpQuiet_nil ?_
  intro _ hw'
  obtain ⟨⟨dq, osq⟩, hw''⟩ := hw'
  subst hw''
  have r5 := q5 dq osq
  go_wp2
  go_ret
  exact ⟨ret_str E.out.symm, below_grow hW dq osq⟩

set_option maxRecDepth 100000 in
set_option maxHeartbeats 2000000 in
theorem specText_4fy (who mo : ByteArray) (y n a : Int) (w : World) (h2 : mo.size ≤ 10) (k0 : 0 ≤ y ∧ y ≤ 1000) (k1 : 0 ≤ n ∧ n ≤ 1000) (k2 : 0 ≤ a ∧ a ≤ 1000) (hab :  0 < a) :
    Calls Tryz.prog 22 #[.agg #[.int .i64 4, .string who, .string mo, .int .i64 y, .int .i64 n, .int .i64 a, .bool false]] w fun e w' => e = .returned (.string ((⟨#[84, 104, 101, 32, 109, 111, 116, 105, 111, 110, 32, 116, 111, 32]⟩ : ByteArray) ++ mo ++ (⟨#[32, 119, 97, 115, 32]⟩ : ByteArray) ++ (⟨#[114, 101, 106, 101, 99, 116, 101, 100]⟩ : ByteArray) ++ (⟨#[32, 98, 121, 32]⟩ : ByteArray) ++ votS y n a ++ (⟨#[46]⟩ : ByteArray))) ∧ Below w.heap.size w w' := by
  have E : Hid ((⟨#[84, 104, 101, 32, 109, 111, 116, 105, 111, 110, 32, 116, 111, 32]⟩ : ByteArray) ++ mo ++ (⟨#[32, 119, 97, 115, 32]⟩ : ByteArray) ++ (⟨#[114, 101, 106, 101, 99, 116, 101, 100]⟩ : ByteArray) ++ (⟨#[32, 98, 121, 32]⟩ : ByteArray) ++ votS y n a ++ (⟨#[46]⟩ : ByteArray) = (⟨#[84, 104, 101, 32, 109, 111, 116, 105, 111, 110, 32, 116, 111, 32]⟩ : ByteArray) ++ mo ++ (⟨#[32, 119, 97, 115, 32]⟩ : ByteArray) ++ (⟨#[114, 101, 106, 101, 99, 116, 101, 100]⟩ : ByteArray) ++ (⟨#[32, 98, 121, 32]⟩ : ByteArray) ++ numS y.toNat ++ (⟨#[32, 116, 111, 32]⟩ : ByteArray) ++ numS n.toNat ++ (⟨#[32, 119, 105, 116, 104, 32]⟩ : ByteArray) ++ numS a.toNat ++ (⟨#[32, 97, 98, 115, 116, 97, 105, 110, 105, 110, 103]⟩ : ByteArray) ++ (⟨#[46]⟩ : ByteArray)) := by show _ = _; rw [votS_yes hab]; simp only [ByteArray.append_assoc]
  have z0 := numS_size (n := y.toNat) (by omega)
  have z1 := numS_size (n := n.toNat) (by omega)
  have z2 := numS_size (n := a.toNat) (by omega)
  obtain ⟨y0, y1⟩ := k0
  obtain ⟨n0, n1⟩ := k1
  obtain ⟨a0, a1⟩ := k2
  have hW : Below w.heap.size w (w.alloc (.cells #[.int .i64 4, .string who, .string mo, .int .i64 y, .int .i64 n, .int .i64 a, .bool false] 27)) := below_alloc _
  have q3 := cell_regrown (cell_of_row (w.alloc (.cells #[.int .i64 4, .string who, .string mo, .int .i64 y, .int .i64 n, .int .i64 a, .bool false] 27)) w.heap.size 3 _ _ _ (heap_new rfl))
  have q4 := cell_regrown (cell_of_row (w.alloc (.cells #[.int .i64 4, .string who, .string mo, .int .i64 y, .int .i64 n, .int .i64 a, .bool false] 27)) w.heap.size 4 _ _ _ (heap_new rfl))
  have q5 := cell_regrown (cell_of_row (w.alloc (.cells #[.int .i64 4, .string who, .string mo, .int .i64 y, .int .i64 n, .int .i64 a, .bool false] 27)) w.heap.size 5 _ _ _ (heap_new rfl))
  have m0 : ((⟨#[84, 104, 101, 32, 109, 111, 116, 105, 111, 110, 32, 116, 111, 32]⟩ : ByteArray) ++ mo).size ≤ maxLen := by simp only [ByteArray.size_append, sz_CH, sz_OP, sz_CL, sz_MV, sz_SE, sz_DOT, sz_RU, sz_INO, sz_OUTO, sz_MT, sz_WAS, sz_ADO, sz_REJ, sz_BY, szTo, szWith, szAbst, maxLen]; omega
  have m1 : ((⟨#[84, 104, 101, 32, 109, 111, 116, 105, 111, 110, 32, 116, 111, 32]⟩ : ByteArray) ++ mo ++ (⟨#[32, 119, 97, 115, 32]⟩ : ByteArray)).size ≤ maxLen := by simp only [ByteArray.size_append, sz_CH, sz_OP, sz_CL, sz_MV, sz_SE, sz_DOT, sz_RU, sz_INO, sz_OUTO, sz_MT, sz_WAS, sz_ADO, sz_REJ, sz_BY, szTo, szWith, szAbst, maxLen]; omega
  have m2 : ((⟨#[84, 104, 101, 32, 109, 111, 116, 105, 111, 110, 32, 116, 111, 32]⟩ : ByteArray) ++ mo ++ (⟨#[32, 119, 97, 115, 32]⟩ : ByteArray) ++ (⟨#[114, 101, 106, 101, 99, 116, 101, 100]⟩ : ByteArray)).size ≤ maxLen := by simp only [ByteArray.size_append, sz_CH, sz_OP, sz_CL, sz_MV, sz_SE, sz_DOT, sz_RU, sz_INO, sz_OUTO, sz_MT, sz_WAS, sz_ADO, sz_REJ, sz_BY, szTo, szWith, szAbst, maxLen]; omega
  have m3 : ((⟨#[84, 104, 101, 32, 109, 111, 116, 105, 111, 110, 32, 116, 111, 32]⟩ : ByteArray) ++ mo ++ (⟨#[32, 119, 97, 115, 32]⟩ : ByteArray) ++ (⟨#[114, 101, 106, 101, 99, 116, 101, 100]⟩ : ByteArray) ++ (⟨#[32, 98, 121, 32]⟩ : ByteArray)).size ≤ maxLen := by simp only [ByteArray.size_append, sz_CH, sz_OP, sz_CL, sz_MV, sz_SE, sz_DOT, sz_RU, sz_INO, sz_OUTO, sz_MT, sz_WAS, sz_ADO, sz_REJ, sz_BY, szTo, szWith, szAbst, maxLen]; omega
  have m4 : ((⟨#[84, 104, 101, 32, 109, 111, 116, 105, 111, 110, 32, 116, 111, 32]⟩ : ByteArray) ++ mo ++ (⟨#[32, 119, 97, 115, 32]⟩ : ByteArray) ++ (⟨#[114, 101, 106, 101, 99, 116, 101, 100]⟩ : ByteArray) ++ (⟨#[32, 98, 121, 32]⟩ : ByteArray) ++ numS y.toNat).size ≤ maxLen := by simp only [ByteArray.size_append, sz_CH, sz_OP, sz_CL, sz_MV, sz_SE, sz_DOT, sz_RU, sz_INO, sz_OUTO, sz_MT, sz_WAS, sz_ADO, sz_REJ, sz_BY, szTo, szWith, szAbst, maxLen]; omega
  have m5 : ((⟨#[84, 104, 101, 32, 109, 111, 116, 105, 111, 110, 32, 116, 111, 32]⟩ : ByteArray) ++ mo ++ (⟨#[32, 119, 97, 115, 32]⟩ : ByteArray) ++ (⟨#[114, 101, 106, 101, 99, 116, 101, 100]⟩ : ByteArray) ++ (⟨#[32, 98, 121, 32]⟩ : ByteArray) ++ numS y.toNat ++ (⟨#[32, 116, 111, 32]⟩ : ByteArray)).size ≤ maxLen := by simp only [ByteArray.size_append, sz_CH, sz_OP, sz_CL, sz_MV, sz_SE, sz_DOT, sz_RU, sz_INO, sz_OUTO, sz_MT, sz_WAS, sz_ADO, sz_REJ, sz_BY, szTo, szWith, szAbst, maxLen]; omega
  have m6 : ((⟨#[84, 104, 101, 32, 109, 111, 116, 105, 111, 110, 32, 116, 111, 32]⟩ : ByteArray) ++ mo ++ (⟨#[32, 119, 97, 115, 32]⟩ : ByteArray) ++ (⟨#[114, 101, 106, 101, 99, 116, 101, 100]⟩ : ByteArray) ++ (⟨#[32, 98, 121, 32]⟩ : ByteArray) ++ numS y.toNat ++ (⟨#[32, 116, 111, 32]⟩ : ByteArray) ++ numS n.toNat).size ≤ maxLen := by simp only [ByteArray.size_append, sz_CH, sz_OP, sz_CL, sz_MV, sz_SE, sz_DOT, sz_RU, sz_INO, sz_OUTO, sz_MT, sz_WAS, sz_ADO, sz_REJ, sz_BY, szTo, szWith, szAbst, maxLen]; omega
  have m7 : ((⟨#[84, 104, 101, 32, 109, 111, 116, 105, 111, 110, 32, 116, 111, 32]⟩ : ByteArray) ++ mo ++ (⟨#[32, 119, 97, 115, 32]⟩ : ByteArray) ++ (⟨#[114, 101, 106, 101, 99, 116, 101, 100]⟩ : ByteArray) ++ (⟨#[32, 98, 121, 32]⟩ : ByteArray) ++ numS y.toNat ++ (⟨#[32, 116, 111, 32]⟩ : ByteArray) ++ numS n.toNat ++ (⟨#[32, 119, 105, 116, 104, 32]⟩ : ByteArray)).size ≤ maxLen := by simp only [ByteArray.size_append, sz_CH, sz_OP, sz_CL, sz_MV, sz_SE, sz_DOT, sz_RU, sz_INO, sz_OUTO, sz_MT, sz_WAS, sz_ADO, sz_REJ, sz_BY, szTo, szWith, szAbst, maxLen]; omega
  have m8 : ((⟨#[84, 104, 101, 32, 109, 111, 116, 105, 111, 110, 32, 116, 111, 32]⟩ : ByteArray) ++ mo ++ (⟨#[32, 119, 97, 115, 32]⟩ : ByteArray) ++ (⟨#[114, 101, 106, 101, 99, 116, 101, 100]⟩ : ByteArray) ++ (⟨#[32, 98, 121, 32]⟩ : ByteArray) ++ numS y.toNat ++ (⟨#[32, 116, 111, 32]⟩ : ByteArray) ++ numS n.toNat ++ (⟨#[32, 119, 105, 116, 104, 32]⟩ : ByteArray) ++ numS a.toNat).size ≤ maxLen := by simp only [ByteArray.size_append, sz_CH, sz_OP, sz_CL, sz_MV, sz_SE, sz_DOT, sz_RU, sz_INO, sz_OUTO, sz_MT, sz_WAS, sz_ADO, sz_REJ, sz_BY, szTo, szWith, szAbst, maxLen]; omega
  have m9 : ((⟨#[84, 104, 101, 32, 109, 111, 116, 105, 111, 110, 32, 116, 111, 32]⟩ : ByteArray) ++ mo ++ (⟨#[32, 119, 97, 115, 32]⟩ : ByteArray) ++ (⟨#[114, 101, 106, 101, 99, 116, 101, 100]⟩ : ByteArray) ++ (⟨#[32, 98, 121, 32]⟩ : ByteArray) ++ numS y.toNat ++ (⟨#[32, 116, 111, 32]⟩ : ByteArray) ++ numS n.toNat ++ (⟨#[32, 119, 105, 116, 104, 32]⟩ : ByteArray) ++ numS a.toNat ++ (⟨#[32, 97, 98, 115, 116, 97, 105, 110, 105, 110, 103]⟩ : ByteArray)).size ≤ maxLen := by simp only [ByteArray.size_append, sz_CH, sz_OP, sz_CL, sz_MV, sz_SE, sz_DOT, sz_RU, sz_INO, sz_OUTO, sz_MT, sz_WAS, sz_ADO, sz_REJ, sz_BY, szTo, szWith, szAbst, maxLen]; omega
  have m10 : ((⟨#[84, 104, 101, 32, 109, 111, 116, 105, 111, 110, 32, 116, 111, 32]⟩ : ByteArray) ++ mo ++ (⟨#[32, 119, 97, 115, 32]⟩ : ByteArray) ++ (⟨#[114, 101, 106, 101, 99, 116, 101, 100]⟩ : ByteArray) ++ (⟨#[32, 98, 121, 32]⟩ : ByteArray) ++ numS y.toNat ++ (⟨#[32, 116, 111, 32]⟩ : ByteArray) ++ numS n.toNat ++ (⟨#[32, 119, 105, 116, 104, 32]⟩ : ByteArray) ++ numS a.toNat ++ (⟨#[32, 97, 98, 115, 116, 97, 105, 110, 105, 110, 103]⟩ : ByteArray) ++ (⟨#[46]⟩ : ByteArray)).size ≤ maxLen := by simp only [ByteArray.size_append, sz_CH, sz_OP, sz_CL, sz_MV, sz_SE, sz_DOT, sz_RU, sz_INO, sz_OUTO, sz_MT, sz_WAS, sz_ADO, sz_REJ, sz_BY, szTo, szWith, szAbst, maxLen]; omega
  go_enter Tryz.func22, Tryz.ntmps22
  go_wp2_with fail
  refine wp_region_quiet_below (by kernel_rfl) (by kernel_rfl) ?_
  repeat (go_big_quiet_step ((go_at_call 43; exact Calls.regrown_of (l1Num_int' _ _ (by omega) (by omega)))))
  refine wpQuiet_nil ?_
  intro _ hw'
  obtain ⟨⟨dq, osq⟩, hw''⟩ := hw'
  subst hw''
  have r5 := q5 dq osq
  go_wp2_with fail
  refine (l1Num_int' _ _ a0 (by omega)).mono ?_
  rintro e w3 ⟨rfl, b3⟩
  go_wp2
  go_ret
  exact ⟨ret_str E.out.symm, below_trans (below_grow hW dq osq) b3⟩

set_option maxRecDepth 100000 in
set_option maxHeartbeats 2000000 in
theorem specText_4fn (who mo : ByteArray) (y n a : Int) (w : World) (h2 : mo.size ≤ 10) (k0 : 0 ≤ y ∧ y ≤ 1000) (k1 : 0 ≤ n ∧ n ≤ 1000) (k2 : 0 ≤ a ∧ a ≤ 1000) (hab : ¬ 0 < a) :
    Calls Tryz.prog 22 #[.agg #[.int .i64 4, .string who, .string mo, .int .i64 y, .int .i64 n, .int .i64 a, .bool false]] w fun e w' => e = .returned (.string ((⟨#[84, 104, 101, 32, 109, 111, 116, 105, 111, 110, 32, 116, 111, 32]⟩ : ByteArray) ++ mo ++ (⟨#[32, 119, 97, 115, 32]⟩ : ByteArray) ++ (⟨#[114, 101, 106, 101, 99, 116, 101, 100]⟩ : ByteArray) ++ (⟨#[32, 98, 121, 32]⟩ : ByteArray) ++ votS y n a ++ (⟨#[46]⟩ : ByteArray))) ∧ Below w.heap.size w w' := by
  have E : Hid ((⟨#[84, 104, 101, 32, 109, 111, 116, 105, 111, 110, 32, 116, 111, 32]⟩ : ByteArray) ++ mo ++ (⟨#[32, 119, 97, 115, 32]⟩ : ByteArray) ++ (⟨#[114, 101, 106, 101, 99, 116, 101, 100]⟩ : ByteArray) ++ (⟨#[32, 98, 121, 32]⟩ : ByteArray) ++ votS y n a ++ (⟨#[46]⟩ : ByteArray) = (⟨#[84, 104, 101, 32, 109, 111, 116, 105, 111, 110, 32, 116, 111, 32]⟩ : ByteArray) ++ mo ++ (⟨#[32, 119, 97, 115, 32]⟩ : ByteArray) ++ (⟨#[114, 101, 106, 101, 99, 116, 101, 100]⟩ : ByteArray) ++ (⟨#[32, 98, 121, 32]⟩ : ByteArray) ++ numS y.toNat ++ (⟨#[32, 116, 111, 32]⟩ : ByteArray) ++ numS n.toNat ++ (⟨#[46]⟩ : ByteArray)) := by show _ = _; rw [votS_no hab]; simp only [ByteArray.append_assoc]
  have z0 := numS_size (n := y.toNat) (by omega)
  have z1 := numS_size (n := n.toNat) (by omega)
  have z2 := numS_size (n := a.toNat) (by omega)
  obtain ⟨y0, y1⟩ := k0
  obtain ⟨n0, n1⟩ := k1
  obtain ⟨a0, a1⟩ := k2
  have hW : Below w.heap.size w (w.alloc (.cells #[.int .i64 4, .string who, .string mo, .int .i64 y, .int .i64 n, .int .i64 a, .bool false] 27)) := below_alloc _
  have q3 := cell_regrown (cell_of_row (w.alloc (.cells #[.int .i64 4, .string who, .string mo, .int .i64 y, .int .i64 n, .int .i64 a, .bool false] 27)) w.heap.size 3 _ _ _ (heap_new rfl))
  have q4 := cell_regrown (cell_of_row (w.alloc (.cells #[.int .i64 4, .string who, .string mo, .int .i64 y, .int .i64 n, .int .i64 a, .bool false] 27)) w.heap.size 4 _ _ _ (heap_new rfl))
  have q5 := cell_regrown (cell_of_row (w.alloc (.cells #[.int .i64 4, .string who, .string mo, .int .i64 y, .int .i64 n, .int .i64 a, .bool false] 27)) w.heap.size 5 _ _ _ (heap_new rfl))
  have m0 : ((⟨#[84, 104, 101, 32, 109, 111, 116, 105, 111, 110, 32, 116, 111, 32]⟩ : ByteArray) ++ mo).size ≤ maxLen := by simp only [ByteArray.size_append, sz_CH, sz_OP, sz_CL, sz_MV, sz_SE, sz_DOT, sz_RU, sz_INO, sz_OUTO, sz_MT, sz_WAS, sz_ADO, sz_REJ, sz_BY, szTo, szWith, szAbst, maxLen]; omega
  have m1 : ((⟨#[84, 104, 101, 32, 109, 111, 116, 105, 111, 110, 32, 116, 111, 32]⟩ : ByteArray) ++ mo ++ (⟨#[32, 119, 97, 115, 32]⟩ : ByteArray)).size ≤ maxLen := by simp only [ByteArray.size_append, sz_CH, sz_OP, sz_CL, sz_MV, sz_SE, sz_DOT, sz_RU, sz_INO, sz_OUTO, sz_MT, sz_WAS, sz_ADO, sz_REJ, sz_BY, szTo, szWith, szAbst, maxLen]; omega
  have m2 : ((⟨#[84, 104, 101, 32, 109, 111, 116, 105, 111, 110, 32, 116, 111, 32]⟩ : ByteArray) ++ mo ++ (⟨#[32, 119, 97, 115, 32]⟩ : ByteArray) ++ (⟨#[114, 101, 106, 101, 99, 116, 101, 100]⟩ : ByteArray)).size ≤ maxLen := by simp only [ByteArray.size_append, sz_CH, sz_OP, sz_CL, sz_MV, sz_SE, sz_DOT, sz_RU, sz_INO, sz_OUTO, sz_MT, sz_WAS, sz_ADO, sz_REJ, sz_BY, szTo, szWith, szAbst, maxLen]; omega
  have m3 : ((⟨#[84, 104, 101, 32, 109, 111, 116, 105, 111, 110, 32, 116, 111, 32]⟩ : ByteArray) ++ mo ++ (⟨#[32, 119, 97, 115, 32]⟩ : ByteArray) ++ (⟨#[114, 101, 106, 101, 99, 116, 101, 100]⟩ : ByteArray) ++ (⟨#[32, 98, 121, 32]⟩ : ByteArray)).size ≤ maxLen := by simp only [ByteArray.size_append, sz_CH, sz_OP, sz_CL, sz_MV, sz_SE, sz_DOT, sz_RU, sz_INO, sz_OUTO, sz_MT, sz_WAS, sz_ADO, sz_REJ, sz_BY, szTo, szWith, szAbst, maxLen]; omega
  have m4 : ((⟨#[84, 104, 101, 32, 109, 111, 116, 105, 111, 110, 32, 116, 111, 32]⟩ : ByteArray) ++ mo ++ (⟨#[32, 119, 97, 115, 32]⟩ : ByteArray) ++ (⟨#[114, 101, 106, 101, 99, 116, 101, 100]⟩ : ByteArray) ++ (⟨#[32, 98, 121, 32]⟩ : ByteArray) ++ numS y.toNat).size ≤ maxLen := by simp only [ByteArray.size_append, sz_CH, sz_OP, sz_CL, sz_MV, sz_SE, sz_DOT, sz_RU, sz_INO, sz_OUTO, sz_MT, sz_WAS, sz_ADO, sz_REJ, sz_BY, szTo, szWith, szAbst, maxLen]; omega
  have m5 : ((⟨#[84, 104, 101, 32, 109, 111, 116, 105, 111, 110, 32, 116, 111, 32]⟩ : ByteArray) ++ mo ++ (⟨#[32, 119, 97, 115, 32]⟩ : ByteArray) ++ (⟨#[114, 101, 106, 101, 99, 116, 101, 100]⟩ : ByteArray) ++ (⟨#[32, 98, 121, 32]⟩ : ByteArray) ++ numS y.toNat ++ (⟨#[32, 116, 111, 32]⟩ : ByteArray)).size ≤ maxLen := by simp only [ByteArray.size_append, sz_CH, sz_OP, sz_CL, sz_MV, sz_SE, sz_DOT, sz_RU, sz_INO, sz_OUTO, sz_MT, sz_WAS, sz_ADO, sz_REJ, sz_BY, szTo, szWith, szAbst, maxLen]; omega
  have m6 : ((⟨#[84, 104, 101, 32, 109, 111, 116, 105, 111, 110, 32, 116, 111, 32]⟩ : ByteArray) ++ mo ++ (⟨#[32, 119, 97, 115, 32]⟩ : ByteArray) ++ (⟨#[114, 101, 106, 101, 99, 116, 101, 100]⟩ : ByteArray) ++ (⟨#[32, 98, 121, 32]⟩ : ByteArray) ++ numS y.toNat ++ (⟨#[32, 116, 111, 32]⟩ : ByteArray) ++ numS n.toNat).size ≤ maxLen := by simp only [ByteArray.size_append, sz_CH, sz_OP, sz_CL, sz_MV, sz_SE, sz_DOT, sz_RU, sz_INO, sz_OUTO, sz_MT, sz_WAS, sz_ADO, sz_REJ, sz_BY, szTo, szWith, szAbst, maxLen]; omega
  have m7 : ((⟨#[84, 104, 101, 32, 109, 111, 116, 105, 111, 110, 32, 116, 111, 32]⟩ : ByteArray) ++ mo ++ (⟨#[32, 119, 97, 115, 32]⟩ : ByteArray) ++ (⟨#[114, 101, 106, 101, 99, 116, 101, 100]⟩ : ByteArray) ++ (⟨#[32, 98, 121, 32]⟩ : ByteArray) ++ numS y.toNat ++ (⟨#[32, 116, 111, 32]⟩ : ByteArray) ++ numS n.toNat ++ (⟨#[46]⟩ : ByteArray)).size ≤ maxLen := by simp only [ByteArray.size_append, sz_CH, sz_OP, sz_CL, sz_MV, sz_SE, sz_DOT, sz_RU, sz_INO, sz_OUTO, sz_MT, sz_WAS, sz_ADO, sz_REJ, sz_BY, szTo, szWith, szAbst, maxLen]; omega
  go_enter Tryz.func22, Tryz.ntmps22
  go_wp2_with fail
  refine wp_region_quiet_below (by kernel_rfl) (by kernel_rfl) ?_
  repeat (go_big_quiet_step ((go_at_call 43; exact Calls.regrown_of (l1Num_int' _ _ (by omega) (by omega)))))
  refine wpQuiet_nil ?_
  intro _ hw'
  obtain ⟨⟨dq, osq⟩, hw''⟩ := hw'
  subst hw''
  have r5 := q5 dq osq
  go_wp2
  go_ret
  exact ⟨ret_str E.out.symm, below_grow hW dq osq⟩


end Go.Proofs.YthphjncgbaknnaaGreatDoor
