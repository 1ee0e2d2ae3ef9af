/-
  YthphjncgbaknnaaGreatDoorMinV: the sentence of an entry, the program's side (impl.entryText), by contracts. (Printed by wip/gen/minv.py.)
-/
import Derived.Test.YthphjncgbaknnaaGreatDoorMinU
import Derived.Laws.Closers25b
namespace Go.Proofs.YthphjncgbaknnaaGreatDoor
open Go Go.RowKit Go.Sort
set_option linter.unusedVariables false
set_option linter.unusedSimpArgs false

theorem sz_CH : (⟨#[84, 104, 101, 32, 99, 104, 97, 105, 114, 32]⟩ : ByteArray).size = 10 := rfl
theorem sz_OP : (⟨#[32, 111, 112, 101, 110, 101, 100, 32, 116, 104, 101, 32, 109, 101, 101, 116, 105, 110, 103, 46]⟩ : ByteArray).size = 20 := rfl
theorem sz_CL : (⟨#[32, 99, 108, 111, 115, 101, 100, 32, 116, 104, 101, 32, 109, 101, 101, 116, 105, 110, 103, 46]⟩ : ByteArray).size = 20 := rfl
theorem sz_MV : (⟨#[32, 109, 111, 118, 101, 100, 32, 116, 111, 32]⟩ : ByteArray).size = 10 := rfl
theorem sz_SE : (⟨#[32, 115, 101, 99, 111, 110, 100, 101, 100, 32, 116, 104, 101, 32, 109, 111, 116, 105, 111, 110, 32, 116, 111, 32]⟩ : ByteArray).size = 24 := rfl
theorem sz_DOT : (⟨#[46]⟩ : ByteArray).size = 1 := rfl
theorem sz_RU : (⟨#[32, 114, 117, 108, 101, 100, 32, 116, 104, 101, 32, 109, 111, 116, 105, 111, 110, 32, 116, 111, 32]⟩ : ByteArray).size = 21 := rfl
theorem sz_INO : (⟨#[32, 105, 110, 32, 111, 114, 100, 101, 114, 46]⟩ : ByteArray).size = 10 := rfl
theorem sz_OUTO : (⟨#[32, 111, 117, 116, 32, 111, 102, 32, 111, 114, 100, 101, 114, 46]⟩ : ByteArray).size = 14 := rfl
theorem sz_MT : (⟨#[84, 104, 101, 32, 109, 111, 116, 105, 111, 110, 32, 116, 111, 32]⟩ : ByteArray).size = 14 := rfl
theorem sz_WAS : (⟨#[32, 119, 97, 115, 32]⟩ : ByteArray).size = 5 := rfl
theorem sz_ADO : (⟨#[97, 100, 111, 112, 116, 101, 100]⟩ : ByteArray).size = 7 := rfl
theorem sz_REJ : (⟨#[114, 101, 106, 101, 99, 116, 101, 100]⟩ : ByteArray).size = 8 := rfl
theorem sz_BY : (⟨#[32, 98, 121, 32]⟩ : ByteArray).size = 4 := rfl

theorem passed_below (b : Bool) (x y : ByteArray) (w : World) : Calls Tryz.prog 38 #[.bool b, .string x, .string y] w fun e w' => e = .returned (.string (if b then x else y)) ∧ Below w.heap.size w w' :=
  (passed_any b x y w).mono fun e w' ⟨h, hw⟩ => ⟨h, by rw [hw]; exact Below.refl _ _⟩
theorem toList_neE {p : ByteArray} (h : 0 < p.size) : p.toList.isEmpty = false := by
  cases he : p.toList.isEmpty
  · rfl
  · exfalso
    have h2 := (toList_nil_iff_emptyBytes p).1 (List.isEmpty_iff.1 he)
    subst h2
    simp at h
theorem conv1' (W : World) (b : Nat) (hb : b = W.heap.size) (x : Int) : (convert 22 9 (.slice (some ⟨b, 0, none⟩) 1 1)).run Tryz.prog (W.alloc (.cells #[.int .u8 x] 5)).drew = .ok (.string ⟨#[UInt8.ofNat x.toNat]⟩) (W.alloc (.cells #[.int .u8 x] 5)).drew := by subst hb; exact conv1 W x
theorem capS_big {s : ByteArray} (h : 0 < s.size) : capS s = (⟨#[UInt8.ofNat ((((s[0]'h).toNat : Int) - 97 + 65) % 256).toNat]⟩ : ByteArray) ++ s.extract 1 s.size := dif_pos h

set_option maxRecDepth 100000 in
set_option maxHeartbeats 2000000 in
theorem implText_1 (who mo : ByteArray) (y n a : Int) (pa : Bool) (w : World) (h0 : 0 < who.size) (h1 : who.size ≤ 10) (h2 : mo.size ≤ 10) :
    Calls Tryz.prog 20 #[.agg #[.int .i64 1, .string who, .string mo, .int .i64 y, .int .i64 n, .int .i64 a, .bool pa]] w fun e w' => e = .returned (.string ((⟨#[84, 104, 101, 32, 99, 104, 97, 105, 114, 32]⟩ : ByteArray) ++ capS who ++ (⟨#[32, 111, 112, 101, 110, 101, 100, 32, 116, 104, 101, 32, 109, 101, 101, 116, 105, 110, 103, 46]⟩ : ByteArray))) ∧ Below w.heap.size w w' := by
  have E := Lib.hid (capS_big h0)
  have he := toList_neE h0
  have hz : (who.extract 1 who.size).size = who.size - 1 := by rw [ByteArray.size_extract]; omega
  have hc := capS_size who
  have kc := fun (x : Int) => conv1' (w.alloc (.cells #[.int .i64 1, .string who, .string mo, .int .i64 y, .int .i64 n, .int .i64 a, .bool pa] 27)) (w.heap.size + 1) (by simp) x
  have m0 : ((⟨#[84, 104, 101, 32, 99, 104, 97, 105, 114, 32]⟩ : ByteArray) ++ capS who).size ≤ maxLen := by simp only [ByteArray.size_append, sz_CH, sz_OP, sz_CL, sz_MV, sz_SE, sz_DOT, sz_RU, sz_INO, sz_OUTO, sz_MT, sz_WAS, sz_ADO, sz_REJ, sz_BY, maxLen]; omega
  have m1 : ((⟨#[84, 104, 101, 32, 99, 104, 97, 105, 114, 32]⟩ : ByteArray) ++ capS who ++ (⟨#[32, 111, 112, 101, 110, 101, 100, 32, 116, 104, 101, 32, 109, 101, 101, 116, 105, 110, 103, 46]⟩ : ByteArray)).size ≤ maxLen := by simp only [ByteArray.size_append, sz_CH, sz_OP, sz_CL, sz_MV, sz_SE, sz_DOT, sz_RU, sz_INO, sz_OUTO, sz_MT, sz_WAS, sz_ADO, sz_REJ, sz_BY, maxLen]; omega
  go_enter Tryz.func20, Tryz.ntmps20
  go_wp2_with fail
  go_region
  rw [← E.out]
  go_wp2
  go_ret
  exact ⟨rfl, (below_alloc2 _ _).drew⟩

set_option maxRecDepth 100000 in
set_option maxHeartbeats 2000000 in
theorem implText_2 (who mo : ByteArray) (y n a : Int) (pa : Bool) (w : World) (h0 : 0 < who.size) (h1 : who.size ≤ 10) (h2 : mo.size ≤ 10) :
    Calls Tryz.prog 20 #[.agg #[.int .i64 2, .string who, .string mo, .int .i64 y, .int .i64 n, .int .i64 a, .bool pa]] w fun e w' => e = .returned (.string (capS who ++ (⟨#[32, 109, 111, 118, 101, 100, 32, 116, 111, 32]⟩ : ByteArray) ++ mo ++ (⟨#[46]⟩ : ByteArray))) ∧ Below w.heap.size w w' := by
  have E := Lib.hid (capS_big h0)
  have he := toList_neE h0
  have hz : (who.extract 1 who.size).size = who.size - 1 := by rw [ByteArray.size_extract]; omega
  have hc := capS_size who
  have kc := fun (x : Int) => conv1' (w.alloc (.cells #[.int .i64 2, .string who, .string mo, .int .i64 y, .int .i64 n, .int .i64 a, .bool pa] 27)) (w.heap.size + 1) (by simp) x
  have m0 : (capS who ++ (⟨#[32, 109, 111, 118, 101, 100, 32, 116, 111, 32]⟩ : ByteArray)).size ≤ maxLen := by simp only [ByteArray.size_append, sz_CH, sz_OP, sz_CL, sz_MV, sz_SE, sz_DOT, sz_RU, sz_INO, sz_OUTO, sz_MT, sz_WAS, sz_ADO, sz_REJ, sz_BY, maxLen]; omega
  have m1 : (capS who ++ (⟨#[32, 109, 111, 118, 101, 100, 32, 116, 111, 32]⟩ : ByteArray) ++ mo).size ≤ maxLen := by simp only [ByteArray.size_append, sz_CH, sz_OP, sz_CL, sz_MV, sz_SE, sz_DOT, sz_RU, sz_INO, sz_OUTO, sz_MT, sz_WAS, sz_ADO, sz_REJ, sz_BY, maxLen]; omega
  have m2 : (capS who ++ (⟨#[32, 109, 111, 118, 101, 100, 32, 116, 111, 32]⟩ : ByteArray) ++ mo ++ (⟨#[46]⟩ : ByteArray)).size ≤ maxLen := by simp only [ByteArray.size_append, sz_CH, sz_OP, sz_CL, sz_MV, sz_SE, sz_DOT, sz_RU, sz_INO, sz_OUTO, sz_MT, sz_WAS, sz_ADO, sz_REJ, sz_BY, maxLen]; omega
  go_enter Tryz.func20, Tryz.ntmps20
  go_wp2_with fail
  go_region
  rw [← E.out]
  go_wp2
  go_ret
  exact ⟨rfl, (below_alloc2 _ _).drew⟩

set_option maxRecDepth 100000 in
set_option maxHeartbeats 2000000 in
theorem implText_3 (who mo : ByteArray) (y n a : Int) (pa : Bool) (w : World) (h0 : 0 < who.size) (h1 : who.size ≤ 10) (h2 : mo.size ≤ 10) :
    Calls Tryz.prog 20 #[.agg #[.int .i64 3, .string who, .string mo, .int .i64 y, .int .i64 n, .int .i64 a, .bool pa]] w fun e w' => e = .returned (.string (capS who ++ (⟨#[32, 115, 101, 99, 111, 110, 100, 101, 100, 32, 116, 104, 101, 32, 109, 111, 116, 105, 111, 110, 32, 116, 111, 32]⟩ : ByteArray) ++ mo ++ (⟨#[46]⟩ : ByteArray))) ∧ Below w.heap.size w w' := by
  have E := Lib.hid (capS_big h0)
  have he := toList_neE h0
  have hz : (who.extract 1 who.size).size = who.size - 1 := by rw [ByteArray.size_extract]; omega
  have hc := capS_size who
  have kc := fun (x : Int) => conv1' (w.alloc (.cells #[.int .i64 3, .string who, .string mo, .int .i64 y, .int .i64 n, .int .i64 a, .bool pa] 27)) (w.heap.size + 1) (by simp) x
  have m0 : (capS who ++ (⟨#[32, 115, 101, 99, 111, 110, 100, 101, 100, 32, 116, 104, 101, 32, 109, 111, 116, 105, 111, 110, 32, 116, 111, 32]⟩ : ByteArray)).size ≤ maxLen := by simp only [ByteArray.size_append, sz_CH, sz_OP, sz_CL, sz_MV, sz_SE, sz_DOT, sz_RU, sz_INO, sz_OUTO, sz_MT, sz_WAS, sz_ADO, sz_REJ, sz_BY, maxLen]; omega
  have m1 : (capS who ++ (⟨#[32, 115, 101, 99, 111, 110, 100, 101, 100, 32, 116, 104, 101, 32, 109, 111, 116, 105, 111, 110, 32, 116, 111, 32]⟩ : ByteArray) ++ mo).size ≤ maxLen := by simp only [ByteArray.size_append, sz_CH, sz_OP, sz_CL, sz_MV, sz_SE, sz_DOT, sz_RU, sz_INO, sz_OUTO, sz_MT, sz_WAS, sz_ADO, sz_REJ, sz_BY, maxLen]; omega
  have m2 : (capS who ++ (⟨#[32, 115, 101, 99, 111, 110, 100, 101, 100, 32, 116, 104, 101, 32, 109, 111, 116, 105, 111, 110, 32, 116, 111, 32]⟩ : ByteArray) ++ mo ++ (⟨#[46]⟩ : ByteArray)).size ≤ maxLen := by simp only [ByteArray.size_append, sz_CH, sz_OP, sz_CL, sz_MV, sz_SE, sz_DOT, sz_RU, sz_INO, sz_OUTO, sz_MT, sz_WAS, sz_ADO, sz_REJ, sz_BY, maxLen]; omega
  go_enter Tryz.func20, Tryz.ntmps20
  go_wp2_with fail
  go_region
  rw [← E.out]
  go_wp2
  go_ret
  exact ⟨rfl, (below_alloc2 _ _).drew⟩

set_option maxRecDepth 100000 in
set_option maxHeartbeats 2000000 in
theorem implText_6 (who mo : ByteArray) (y n a : Int) (pa : Bool) (w : World) (h0 : 0 < who.size) (h1 : who.size ≤ 10) (h2 : mo.size ≤ 10) :
    Calls Tryz.prog 20 #[.agg #[.int .i64 6, .string who, .string mo, .int .i64 y, .int .i64 n, .int .i64 a, .bool pa]] w fun e w' => e = .returned (.string ((⟨#[84, 104, 101, 32, 99, 104, 97, 105, 114, 32]⟩ : ByteArray) ++ capS who ++ (⟨#[32, 99, 108, 111, 115, 101, 100, 32, 116, 104, 101, 32, 109, 101, 101, 116, 105, 110, 103, 46]⟩ : ByteArray))) ∧ Below w.heap.size w w' := by
  have E := Lib.hid (capS_big h0)
  have he := toList_neE h0
  have hz : (who.extract 1 who.size).size = who.size - 1 := by rw [ByteArray.size_extract]; omega
  have hc := capS_size who
  have kc := fun (x : Int) => conv1' (w.alloc (.cells #[.int .i64 6, .string who, .string mo, .int .i64 y, .int .i64 n, .int .i64 a, .bool pa] 27)) (w.heap.size + 1) (by simp) x
  have m0 : ((⟨#[84, 104, 101, 32, 99, 104, 97, 105, 114, 32]⟩ : ByteArray) ++ capS who).size ≤ maxLen := by simp only [ByteArray.size_append, sz_CH, sz_OP, sz_CL, sz_MV, sz_SE, sz_DOT, sz_RU, sz_INO, sz_OUTO, sz_MT, sz_WAS, sz_ADO, sz_REJ, sz_BY, maxLen]; omega
  have m1 : ((⟨#[84, 104, 101, 32, 99, 104, 97, 105, 114, 32]⟩ : ByteArray) ++ capS who ++ (⟨#[32, 99, 108, 111, 115, 101, 100, 32, 116, 104, 101, 32, 109, 101, 101, 116, 105, 110, 103, 46]⟩ : ByteArray)).size ≤ maxLen := by simp only [ByteArray.size_append, sz_CH, sz_OP, sz_CL, sz_MV, sz_SE, sz_DOT, sz_RU, sz_INO, sz_OUTO, sz_MT, sz_WAS, sz_ADO, sz_REJ, sz_BY, maxLen]; omega
  go_enter Tryz.func20, Tryz.ntmps20
  go_wp2_with fail
  go_region
  rw [← E.out]
  go_wp2
  go_ret
  exact ⟨rfl, (below_alloc2 _ _).drew⟩

theorem passed_t (x y : ByteArray) (w : World) : Calls Tryz.prog 38 #[.bool true, .string x, .string y] w fun e w' => e = .returned (.string x) ∧ Below w.heap.size w w' := passed_below true x y w
theorem passed_f (x y : ByteArray) (w : World) : Calls Tryz.prog 38 #[.bool false, .string x, .string y] w fun e w' => e = .returned (.string y) ∧ Below w.heap.size w w' := passed_below false x y w

set_option maxRecDepth 100000 in
set_option maxHeartbeats 2000000 in
theorem implText_5t (who mo : ByteArray) (y n a : Int) (w : World) (h0 : 0 < who.size) (h1 : who.size ≤ 10) (h2 : mo.size ≤ 10) :
    Calls Tryz.prog 20 #[.agg #[.int .i64 5, .string who, .string mo, .int .i64 y, .int .i64 n, .int .i64 a, .bool true]] w fun e w' => e = .returned (.string ((⟨#[84, 104, 101, 32, 99, 104, 97, 105, 114, 32]⟩ : ByteArray) ++ capS who ++ (⟨#[32, 114, 117, 108, 101, 100, 32, 116, 104, 101, 32, 109, 111, 116, 105, 111, 110, 32, 116, 111, 32]⟩ : ByteArray) ++ mo ++ (⟨#[32, 105, 110, 32, 111, 114, 100, 101, 114, 46]⟩ : ByteArray))) ∧ Below w.heap.size w w' := by
  have E := Lib.hid (capS_big h0)
  have he := toList_neE h0
  have hz : (who.extract 1 who.size).size = who.size - 1 := by rw [ByteArray.size_extract]; omega
  have hc := capS_size who
  have kc := fun (x : Int) => conv1' (w.alloc (.cells #[.int .i64 5, .string who, .string mo, .int .i64 y, .int .i64 n, .int .i64 a, .bool true] 27)) (w.heap.size + 1) (by simp) x
  have q2 := fun (x : Int) => cell_regrown (cell_of_row (((w.alloc (.cells #[.int .i64 5, .string who, .string mo, .int .i64 y, .int .i64 n, .int .i64 a, .bool true] 27)).alloc (.cells #[.int .u8 x] 5)).drew) w.heap.size 2 _ _ _ (heap_old (heap_new rfl)))
  have q6 := fun (x : Int) => cell_regrown (cell_of_row (((w.alloc (.cells #[.int .i64 5, .string who, .string mo, .int .i64 y, .int .i64 n, .int .i64 a, .bool true] 27)).alloc (.cells #[.int .u8 x] 5)).drew) w.heap.size 6 _ _ _ (heap_old (heap_new rfl)))
  have m0 : ((⟨#[84, 104, 101, 32, 99, 104, 97, 105, 114, 32]⟩ : ByteArray) ++ capS who).size ≤ maxLen := by simp only [ByteArray.size_append, sz_CH, sz_OP, sz_CL, sz_MV, sz_SE, sz_DOT, sz_RU, sz_INO, sz_OUTO, sz_MT, sz_WAS, sz_ADO, sz_REJ, sz_BY, maxLen]; omega
  have m1 : ((⟨#[84, 104, 101, 32, 99, 104, 97, 105, 114, 32]⟩ : ByteArray) ++ capS who ++ (⟨#[32, 114, 117, 108, 101, 100, 32, 116, 104, 101, 32, 109, 111, 116, 105, 111, 110, 32, 116, 111, 32]⟩ : ByteArray)).size ≤ maxLen := by simp only [ByteArray.size_append, sz_CH, sz_OP, sz_CL, sz_MV, sz_SE, sz_DOT, sz_RU, sz_INO, sz_OUTO, sz_MT, sz_WAS, sz_ADO, sz_REJ, sz_BY, maxLen]; omega
  have m2 : ((⟨#[84, 104, 101, 32, 99, 104, 97, 105, 114, 32]⟩ : ByteArray) ++ capS who ++ (⟨#[32, 114, 117, 108, 101, 100, 32, 116, 104, 101, 32, 109, 111, 116, 105, 111, 110, 32, 116, 111, 32]⟩ : ByteArray) ++ mo).size ≤ maxLen := by simp only [ByteArray.size_append, sz_CH, sz_OP, sz_CL, sz_MV, sz_SE, sz_DOT, sz_RU, sz_INO, sz_OUTO, sz_MT, sz_WAS, sz_ADO, sz_REJ, sz_BY, maxLen]; omega
  have m3 : ((⟨#[84, 104, 101, 32, 99, 104, 97, 105, 114, 32]⟩ : ByteArray) ++ capS who ++ (⟨#[32, 114, 117, 108, 101, 100, 32, 116, 104, 101, 32, 109, 111, 116, 105, 111, 110, 32, 116, 111, 32]⟩ : ByteArray) ++ mo ++ (⟨#[32, 105, 110, 32, 111, 114, 100, 101, 114, 46]⟩ : ByteArray)).size ≤ maxLen := by simp only [ByteArray.size_append, sz_CH, sz_OP, sz_CL, sz_MV, sz_SE, sz_DOT, sz_RU, sz_INO, sz_OUTO, sz_MT, sz_WAS, sz_ADO, sz_REJ, sz_BY, maxLen]; omega
  go_enter Tryz.func20, Tryz.ntmps20
  go_wp2_with fail
  go_region
  rw [← E.out]
  go_wp2_with fail
  refine wp_region_quiet_below (by kernel_rfl) (by kernel_rfl) ?_
  repeat (go_big_quiet_step ((go_at_call 38; exact Calls.regrown_of (passed_t _ _ _))))
  refine wpQuiet_nil ?_
  intro _ hw'
  obtain ⟨⟨dq, osq⟩, hw''⟩ := hw'
  subst hw''
  go_wp2
  go_ret
  exact ⟨rfl, below_grow ((below_alloc2 _ _).drew) dq osq⟩

set_option maxRecDepth 100000 in
set_option maxHeartbeats 2000000 in
theorem implText_5f (who mo : ByteArray) (y n a : Int) (w : World) (h0 : 0 < who.size) (h1 : who.size ≤ 10) (h2 : mo.size ≤ 10) :
    Calls Tryz.prog 20 #[.agg #[.int .i64 5, .string who, .string mo, .int .i64 y, .int .i64 n, .int .i64 a, .bool false]] w fun e w' => e = .returned (.string ((⟨#[84, 104, 101, 32, 99, 104, 97, 105, 114, 32]⟩ : ByteArray) ++ capS who ++ (⟨#[32, 114, 117, 108, 101, 100, 32, 116, 104, 101, 32, 109, 111, 116, 105, 111, 110, 32, 116, 111, 32]⟩ : ByteArray) ++ mo ++ (⟨#[32, 111, 117, 116, 32, 111, 102, 32, 111, 114, 100, 101, 114, 46]⟩ : ByteArray))) ∧ Below w.heap.size w w' := by
  have E := Lib.hid (capS_big h0)
  have he := toList_neE h0
  have hz : (who.extract 1 who.size).size = who.size - 1 := by rw [ByteArray.size_extract]; omega
  have hc := capS_size who
  have kc := fun (x : Int) => conv1' (w.alloc (.cells #[.int .i64 5, .string who, .string mo, .int .i64 y, .int .i64 n, .int .i64 a, .bool false] 27)) (w.heap.size + 1) (by simp) x
  have q2 := fun (x : Int) => cell_regrown (cell_of_row (((w.alloc (.cells #[.int .i64 5, .string who, .string mo, .int .i64 y, .int .i64 n, .int .i64 a, .bool false] 27)).alloc (.cells #[.int .u8 x] 5)).drew) w.heap.size 2 _ _ _ (heap_old (heap_new rfl)))
  have q6 := fun (x : Int) => cell_regrown (cell_of_row (((w.alloc (.cells #[.int .i64 5, .string who, .string mo, .int .i64 y, .int .i64 n, .int .i64 a, .bool false] 27)).alloc (.cells #[.int .u8 x] 5)).drew) w.heap.size 6 _ _ _ (heap_old (heap_new rfl)))
  have m0 : ((⟨#[84, 104, 101, 32, 99, 104, 97, 105, 114, 32]⟩ : ByteArray) ++ capS who).size ≤ maxLen := by simp only [ByteArray.size_append, sz_CH, sz_OP, sz_CL, sz_MV, sz_SE, sz_DOT, sz_RU, sz_INO, sz_OUTO, sz_MT, sz_WAS, sz_ADO, sz_REJ, sz_BY, maxLen]; omega
  have m1 : ((⟨#[84, 104, 101, 32, 99, 104, 97, 105, 114, 32]⟩ : ByteArray) ++ capS who ++ (⟨#[32, 114, 117, 108, 101, 100, 32, 116, 104, 101, 32, 109, 111, 116, 105, 111, 110, 32, 116, 111, 32]⟩ : ByteArray)).size ≤ maxLen := by simp only [ByteArray.size_append, sz_CH, sz_OP, sz_CL, sz_MV, sz_SE, sz_DOT, sz_RU, sz_INO, sz_OUTO, sz_MT, sz_WAS, sz_ADO, sz_REJ, sz_BY, maxLen]; omega
  have m2 : ((⟨#[84, 104, 101, 32, 99, 104, 97, 105, 114, 32]⟩ : ByteArray) ++ capS who ++ (⟨#[32, 114, 117, 108, 101, 100, 32, 116, 104, 101, 32, 109, 111, 116, 105, 111, 110, 32, 116, 111, 32]⟩ : ByteArray) ++ mo).size ≤ maxLen := by simp only [ByteArray.size_append, sz_CH, sz_OP, sz_CL, sz_MV, sz_SE, sz_DOT, sz_RU, sz_INO, sz_OUTO, sz_MT, sz_WAS, sz_ADO, sz_REJ, sz_BY, maxLen]; omega
  have m3 : ((⟨#[84, 104, 101, 32, 99, 104, 97, 105, 114, 32]⟩ : ByteArray) ++ capS who ++ (⟨#[32, 114, 117, 108, 101, 100, 32, 116, 104, 101, 32, 109, 111, 116, 105, 111, 110, 32, 116, 111, 32]⟩ : ByteArray) ++ mo ++ (⟨#[32, 111, 117, 116, 32, 111, 102, 32, 111, 114, 100, 101, 114, 46]⟩ : ByteArray)).size ≤ maxLen := by simp only [ByteArray.size_append, sz_CH, sz_OP, sz_CL, sz_MV, sz_SE, sz_DOT, sz_RU, sz_INO, sz_OUTO, sz_MT, sz_WAS, sz_ADO, sz_REJ, sz_BY, maxLen]; omega
  go_enter Tryz.func20, Tryz.ntmps20
  go_wp2_with fail
  go_region
  rw [← E.out]
  go_wp2_with fail
  refine wp_region_quiet_below (by kernel_rfl) (by kernel_rfl) ?_
  repeat (go_big_quiet_step ((go_at_call 38; exact Calls.regrown_of (passed_f _ _ _))))
  refine wpQuiet_nil ?_
  intro _ hw'
  obtain ⟨⟨dq, osq⟩, hw''⟩ := hw'
  subst hw''
  go_wp2
  go_ret
  exact ⟨rfl, below_grow ((below_alloc2 _ _).drew) dq osq⟩

set_option maxRecDepth 100000 in
set_option maxHeartbeats 2000000 in
theorem implText_4t (mo : ByteArray) (y n a : Int) (w : World) (hT : Lib.TabIs Tryz.prog w "internal/strconv.uint64pow10" .u64 Lib.pow10Tab) (h2 : mo.size ≤ 10) (k0 : 0 ≤ y ∧ y ≤ 1000) (k1 : 0 ≤ n ∧ n ≤ 1000) (k2 : 0 ≤ a ∧ a ≤ 1000) :
    Calls Tryz.prog 20 #[.agg #[.int .i64 4, .string ByteArray.empty, .string mo, .int .i64 y, .int .i64 n, .int .i64 a, .bool true]] w fun e w' => e = .returned (.string ((⟨#[84, 104, 101, 32, 109, 111, 116, 105, 111, 110, 32, 116, 111, 32]⟩ : ByteArray) ++ mo ++ (⟨#[32, 119, 97, 115, 32]⟩ : ByteArray) ++ (⟨#[97, 100, 111, 112, 116, 101, 100]⟩ : ByteArray) ++ (⟨#[32, 98, 121, 32]⟩ : ByteArray) ++ votS y n a ++ (⟨#[46]⟩ : ByteArray))) ∧ Below w.heap.size w w' := by
  have he : ByteArray.empty.toList.isEmpty = true := by rw [(toList_nil_iff_emptyBytes _).2 rfl]; rfl
  have hv := votS_size k0 k1 k2
  have K0 := Lib.hid k0
  have K1 := Lib.hid k1
  have K2 := Lib.hid k2
  have hW : Below w.heap.size w (w.alloc (.cells #[.int .i64 4, .string ByteArray.empty, .string mo, .int .i64 y, .int .i64 n, .int .i64 a, .bool true] 27)) := below_alloc _
  have hT1 := pow10_below hT hW
  have q2 := cell_regrown (cell_of_row (w.alloc (.cells #[.int .i64 4, .string ByteArray.empty, .string mo, .int .i64 y, .int .i64 n, .int .i64 a, .bool true] 27)) w.heap.size 2 _ _ _ (heap_new rfl))
  have q3 := cell_regrown (cell_of_row (w.alloc (.cells #[.int .i64 4, .string ByteArray.empty, .string mo, .int .i64 y, .int .i64 n, .int .i64 a, .bool true] 27)) w.heap.size 3 _ _ _ (heap_new rfl))
  have q4 := cell_regrown (cell_of_row (w.alloc (.cells #[.int .i64 4, .string ByteArray.empty, .string mo, .int .i64 y, .int .i64 n, .int .i64 a, .bool true] 27)) w.heap.size 4 _ _ _ (heap_new rfl))
  have q5 := cell_regrown (cell_of_row (w.alloc (.cells #[.int .i64 4, .string ByteArray.empty, .string mo, .int .i64 y, .int .i64 n, .int .i64 a, .bool true] 27)) w.heap.size 5 _ _ _ (heap_new rfl))
  have q6 := cell_regrown (cell_of_row (w.alloc (.cells #[.int .i64 4, .string ByteArray.empty, .string mo, .int .i64 y, .int .i64 n, .int .i64 a, .bool true] 27)) w.heap.size 6 _ _ _ (heap_new rfl))
  have m0 : ((⟨#[84, 104, 101, 32, 109, 111, 116, 105, 111, 110, 32, 116, 111, 32]⟩ : ByteArray) ++ mo).size ≤ maxLen := by simp only [ByteArray.size_append, sz_CH, sz_OP, sz_CL, sz_MV, sz_SE, sz_DOT, sz_RU, sz_INO, sz_OUTO, sz_MT, sz_WAS, sz_ADO, sz_REJ, sz_BY, maxLen]; omega
  have m1 : ((⟨#[84, 104, 101, 32, 109, 111, 116, 105, 111, 110, 32, 116, 111, 32]⟩ : ByteArray) ++ mo ++ (⟨#[32, 119, 97, 115, 32]⟩ : ByteArray)).size ≤ maxLen := by simp only [ByteArray.size_append, sz_CH, sz_OP, sz_CL, sz_MV, sz_SE, sz_DOT, sz_RU, sz_INO, sz_OUTO, sz_MT, sz_WAS, sz_ADO, sz_REJ, sz_BY, maxLen]; omega
  have m2 : ((⟨#[84, 104, 101, 32, 109, 111, 116, 105, 111, 110, 32, 116, 111, 32]⟩ : ByteArray) ++ mo ++ (⟨#[32, 119, 97, 115, 32]⟩ : ByteArray) ++ (⟨#[97, 100, 111, 112, 116, 101, 100]⟩ : ByteArray)).size ≤ maxLen := by simp only [ByteArray.size_append, sz_CH, sz_OP, sz_CL, sz_MV, sz_SE, sz_DOT, sz_RU, sz_INO, sz_OUTO, sz_MT, sz_WAS, sz_ADO, sz_REJ, sz_BY, maxLen]; omega
  have m3 : ((⟨#[84, 104, 101, 32, 109, 111, 116, 105, 111, 110, 32, 116, 111, 32]⟩ : ByteArray) ++ mo ++ (⟨#[32, 119, 97, 115, 32]⟩ : ByteArray) ++ (⟨#[97, 100, 111, 112, 116, 101, 100]⟩ : ByteArray) ++ (⟨#[32, 98, 121, 32]⟩ : ByteArray)).size ≤ maxLen := by simp only [ByteArray.size_append, sz_CH, sz_OP, sz_CL, sz_MV, sz_SE, sz_DOT, sz_RU, sz_INO, sz_OUTO, sz_MT, sz_WAS, sz_ADO, sz_REJ, sz_BY, maxLen]; omega
  have m4 : ((⟨#[84, 104, 101, 32, 109, 111, 116, 105, 111, 110, 32, 116, 111, 32]⟩ : ByteArray) ++ mo ++ (⟨#[32, 119, 97, 115, 32]⟩ : ByteArray) ++ (⟨#[97, 100, 111, 112, 116, 101, 100]⟩ : ByteArray) ++ (⟨#[32, 98, 121, 32]⟩ : ByteArray) ++ votS y n a).size ≤ maxLen := by simp only [ByteArray.size_append, sz_CH, sz_OP, sz_CL, sz_MV, sz_SE, sz_DOT, sz_RU, sz_INO, sz_OUTO, sz_MT, sz_WAS, sz_ADO, sz_REJ, sz_BY, maxLen]; omega
  have m5 : ((⟨#[84, 104, 101, 32, 109, 111, 116, 105, 111, 110, 32, 116, 111, 32]⟩ : ByteArray) ++ mo ++ (⟨#[32, 119, 97, 115, 32]⟩ : ByteArray) ++ (⟨#[97, 100, 111, 112, 116, 101, 100]⟩ : ByteArray) ++ (⟨#[32, 98, 121, 32]⟩ : ByteArray) ++ votS y n a ++ (⟨#[46]⟩ : ByteArray)).size ≤ maxLen := by simp only [ByteArray.size_append, sz_CH, sz_OP, sz_CL, sz_MV, sz_SE, sz_DOT, sz_RU, sz_INO, sz_OUTO, sz_MT, sz_WAS, sz_ADO, sz_REJ, sz_BY, maxLen]; omega
  clear k0 k1 k2
  go_enter Tryz.func20, Tryz.ntmps20
  go_wp2_with fail
  refine wp_region_quiet_below (by kernel_rfl) (by kernel_rfl) ?_
  repeat (go_big_quiet_step ((first | (go_at_call 38; exact Calls.regrown_of (passed_t _ _ _)) | (go_at_call 39; exact Calls.regrown_of (votesText_any _ _ _ _ (pow10_below hT1 (below_regrown _ _ _)) K0.out K1.out K2.out)))))
  refine wpQuiet_nil ?_
  intro _ hw'
  obtain ⟨⟨dq, osq⟩, hw''⟩ := hw'
  subst hw''
  go_wp2
  go_ret
  exact ⟨rfl, below_grow hW dq osq⟩

set_option maxRecDepth 100000 in
set_option maxHeartbeats 2000000 in
theorem implText_4f (mo : ByteArray) (y n a : Int) (w : World) (hT : Lib.TabIs Tryz.prog w "internal/strconv.uint64pow10" .u64 Lib.pow10Tab) (h2 : mo.size ≤ 10) (k0 : 0 ≤ y ∧ y ≤ 1000) (k1 : 0 ≤ n ∧ n ≤ 1000) (k2 : 0 ≤ a ∧ a ≤ 1000) :
    Calls Tryz.prog 20 #[.agg #[.int .i64 4, .string ByteArray.empty, .string mo, .int .i64 y, .int .i64 n, .int .i64 a, .bool false]] w fun e w' => e = .returned (.string ((⟨#[84, 104, 101, 32, 109, 111, 116, 105, 111, 110, 32, 116, 111, 32]⟩ : ByteArray) ++ mo ++ (⟨#[32, 119, 97, 115, 32]⟩ : ByteArray) ++ (⟨#[114, 101, 106, 101, 99, 116, 101, 100]⟩ : ByteArray) ++ (⟨#[32, 98, 121, 32]⟩ : ByteArray) ++ votS y n a ++ (⟨#[46]⟩ : ByteArray))) ∧ Below w.heap.size w w' := by
  have he : ByteArray.empty.toList.isEmpty = true := by rw [(toList_nil_iff_emptyBytes _).2 rfl]; rfl
  have hv := votS_size k0 k1 k2
  have K0 := Lib.hid k0
  have K1 := Lib.hid k1
  have K2 := Lib.hid k2
  have hW : Below w.heap.size w (w.alloc (.cells #[.int .i64 4, .string ByteArray.empty, .string mo, .int .i64 y, .int .i64 n, .int .i64 a, .bool false] 27)) := below_alloc _
  have hT1 := pow10_below hT hW
  have q2 := cell_regrown (cell_of_row (w.alloc (.cells #[.int .i64 4, .string ByteArray.empty, .string mo, .int .i64 y, .int .i64 n, .int .i64 a, .bool false] 27)) w.heap.size 2 _ _ _ (heap_new rfl))
  have q3 := cell_regrown (cell_of_row (w.alloc (.cells #[.int .i64 4, .string ByteArray.empty, .string mo, .int .i64 y, .int .i64 n, .int .i64 a, .bool false] 27)) w.heap.size 3 _ _ _ (heap_new rfl))
  have q4 := cell_regrown (cell_of_row (w.alloc (.cells #[.int .i64 4, .string ByteArray.empty, .string mo, .int .i64 y, .int .i64 n, .int .i64 a, .bool false] 27)) w.heap.size 4 _ _ _ (heap_new rfl))
  have q5 := cell_regrown (cell_of_row (w.alloc (.cells #[.int .i64 4, .string ByteArray.empty, .string mo, .int .i64 y, .int .i64 n, .int .i64 a, .bool false] 27)) w.heap.size 5 _ _ _ (heap_new rfl))
  have q6 := cell_regrown (cell_of_row (w.alloc (.cells #[.int .i64 4, .string ByteArray.empty, .string mo, .int .i64 y, .int .i64 n, .int .i64 a, .bool false] 27)) w.heap.size 6 _ _ _ (heap_new rfl))
  have m0 : ((⟨#[84, 104, 101, 32, 109, 111, 116, 105, 111, 110, 32, 116, 111, 32]⟩ : ByteArray) ++ mo).size ≤ maxLen := by simp only [ByteArray.size_append, sz_CH, sz_OP, sz_CL, sz_MV, sz_SE, sz_DOT, sz_RU, sz_INO, sz_OUTO, sz_MT, sz_WAS, sz_ADO, sz_REJ, sz_BY, maxLen]; omega
  have m1 : ((⟨#[84, 104, 101, 32, 109, 111, 116, 105, 111, 110, 32, 116, 111, 32]⟩ : ByteArray) ++ mo ++ (⟨#[32, 119, 97, 115, 32]⟩ : ByteArray)).size ≤ maxLen := by simp only [ByteArray.size_append, sz_CH, sz_OP, sz_CL, sz_MV, sz_SE, sz_DOT, sz_RU, sz_INO, sz_OUTO, sz_MT, sz_WAS, sz_ADO, sz_REJ, sz_BY, maxLen]; omega
  have m2 : ((⟨#[84, 104, 101, 32, 109, 111, 116, 105, 111, 110, 32, 116, 111, 32]⟩ : ByteArray) ++ mo ++ (⟨#[32, 119, 97, 115, 32]⟩ : ByteArray) ++ (⟨#[114, 101, 106, 101, 99, 116, 101, 100]⟩ : ByteArray)).size ≤ maxLen := by simp only [ByteArray.size_append, sz_CH, sz_OP, sz_CL, sz_MV, sz_SE, sz_DOT, sz_RU, sz_INO, sz_OUTO, sz_MT, sz_WAS, sz_ADO, sz_REJ, sz_BY, maxLen]; omega
  have m3 : ((⟨#[84, 104, 101, 32, 109, 111, 116, 105, 111, 110, 32, 116, 111, 32]⟩ : ByteArray) ++ mo ++ (⟨#[32, 119, 97, 115, 32]⟩ : ByteArray) ++ (⟨#[114, 101, 106, 101, 99, 116, 101, 100]⟩ : ByteArray) ++ (⟨#[32, 98, 121, 32]⟩ : ByteArray)).size ≤ maxLen := by simp only [ByteArray.size_append, sz_CH, sz_OP, sz_CL, sz_MV, sz_SE, sz_DOT, sz_RU, sz_INO, sz_OUTO, sz_MT, sz_WAS, sz_ADO, sz_REJ, sz_BY, maxLen]; omega
  have m4 : ((⟨#[84, 104, 101, 32, 109, 111, 116, 105, 111, 110, 32, 116, 111, 32]⟩ : ByteArray) ++ mo ++ (⟨#[32, 119, 97, 115, 32]⟩ : ByteArray) ++ (⟨#[114, 101, 106, 101, 99, 116, 101, 100]⟩ : ByteArray) ++ (⟨#[32, 98, 121, 32]⟩ : ByteArray) ++ votS y n a).size ≤ maxLen := by simp only [ByteArray.size_append, sz_CH, sz_OP, sz_CL, sz_MV, sz_SE, sz_DOT, sz_RU, sz_INO, sz_OUTO, sz_MT, sz_WAS, sz_ADO, sz_REJ, sz_BY, maxLen]; omega
  have m5 : ((⟨#[84, 104, 101, 32, 109, 111, 116, 105, 111, 110, 32, 116, 111, 32]⟩ : ByteArray) ++ mo ++ (⟨#[32, 119, 97, 115, 32]⟩ : ByteArray) ++ (⟨#[114, 101, 106, 101, 99, 116, 101, 100]⟩ : ByteArray) ++ (⟨#[32, 98, 121, 32]⟩ : ByteArray) ++ votS y n a ++ (⟨#[46]⟩ : ByteArray)).size ≤ maxLen := by simp only [ByteArray.size_append, sz_CH, sz_OP, sz_CL, sz_MV, sz_SE, sz_DOT, sz_RU, sz_INO, sz_OUTO, sz_MT, sz_WAS, sz_ADO, sz_REJ, sz_BY, maxLen]; omega
  clear k0 k1 k2
  go_enter Tryz.func20, Tryz.ntmps20
  go_wp2_with fail
  refine wp_region_quiet_below (by kernel_rfl) (by kernel_rfl) ?_
  repeat (go_big_quiet_step ((first | (go_at_call 38; exact Calls.regrown_of (passed_f _ _ _)) | (go_at_call 39; exact Calls.regrown_of (votesText_any _ _ _ _ (pow10_below hT1 (below_regrown _ _ _)) K0.out K1.out K2.out)))))
  refine wpQuiet_nil ?_
  intro _ hw'
  obtain ⟨⟨dq, osq⟩, hw''⟩ := hw'
  subst hw''
  go_wp2
  go_ret
  exact ⟨rfl, below_grow hW dq osq⟩


end Go.Proofs.YthphjncgbaknnaaGreatDoor
