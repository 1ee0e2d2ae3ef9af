/-
  YthphjncgbaknnaaGreatDoorMinU: the numbers of votes as a text (impl.votesText), by contract. (Printed by wip/gen/mint.py.)
-/
import Derived.Test.YthphjncgbaknnaaGreatDoorMinT
namespace Go.Proofs.YthphjncgbaknnaaGreatDoor
open Go Go.RowKit Go.Sort
set_option linter.unusedVariables false

def votS (y n a : Int) : ByteArray := numS y.toNat ++ (⟨#[32, 116, 111, 32]⟩ : ByteArray) ++ numS n.toNat ++ (if 0 < a then (⟨#[32, 119, 105, 116, 104, 32]⟩ : ByteArray) ++ numS a.toNat ++ (⟨#[32, 97, 98, 115, 116, 97, 105, 110, 105, 110, 103]⟩ : ByteArray) else ByteArray.empty)
theorem votS_yes {y n a : Int} (h : 0 < a) : votS y n a = numS y.toNat ++ (⟨#[32, 116, 111, 32]⟩ : ByteArray) ++ numS n.toNat ++ ((⟨#[32, 119, 105, 116, 104, 32]⟩ : ByteArray) ++ numS a.toNat ++ (⟨#[32, 97, 98, 115, 116, 97, 105, 110, 105, 110, 103]⟩ : ByteArray)) := by rw [votS, if_pos h]
theorem votS_no {y n a : Int} (h : ¬ 0 < a) : votS y n a = numS y.toNat ++ (⟨#[32, 116, 111, 32]⟩ : ByteArray) ++ numS n.toNat := by rw [votS, if_neg h, ByteArray.append_empty]
theorem szTo : (⟨#[32, 116, 111, 32]⟩ : ByteArray).size = 4 := rfl
theorem szWith : (⟨#[32, 119, 105, 116, 104, 32]⟩ : ByteArray).size = 6 := rfl
theorem szAbst : (⟨#[32, 97, 98, 115, 116, 97, 105, 110, 105, 110, 103]⟩ : ByteArray).size = 11 := rfl
theorem votS_size {y n a : Int} (h0 : 0 ≤ y ∧ y ≤ 1000) (h1 : 0 ≤ n ∧ n ≤ 1000) (h2 : 0 ≤ a ∧ a ≤ 1000) : (votS y n a).size ≤ 81 := by
  have := numS_size (n := y.toNat) (by omega)
  have := numS_size (n := n.toNat) (by omega)
  have := numS_size (n := a.toNat) (by omega)
  by_cases h : 0 < a
  · rw [votS_yes h]; simp only [ByteArray.size_append, szTo, szWith, szAbst]; omega
  · rw [votS_no h]; simp only [ByteArray.size_append, szTo]; omega

set_option maxRecDepth 100000 in
set_option maxHeartbeats 1000000 in
theorem votesText_any (y n a : Int) (w : World) (hT : Lib.TabIs Tryz.prog w "internal/strconv.uint64pow10" .u64 Lib.pow10Tab) (h0 : 0 ≤ y ∧ y ≤ 1000) (h1 : 0 ≤ n ∧ n ≤ 1000) (h2 : 0 ≤ a ∧ a ≤ 1000) :
    Calls Tryz.prog 39 #[.agg #[.int .i64 y, .int .i64 n, .int .i64 a]] w fun e w' => e = .returned (.string (votS y n a)) ∧ Below w.heap.size w w' := by
  have z0 := numS_size (n := y.toNat) (by omega)
  have z1 := numS_size (n := n.toNat) (by omega)
  have z2 := numS_size (n := a.toNat) (by omega)
  obtain ⟨y0, y1⟩ := h0
  obtain ⟨n0, n1⟩ := h1
  obtain ⟨a0, a1⟩ := h2
  have m1 : (numS y.toNat ++ (⟨#[32, 116, 111, 32]⟩ : ByteArray)).size ≤ maxLen := by simp only [ByteArray.size_append, szTo, maxLen]; omega
  have m2 : (numS y.toNat ++ (⟨#[32, 116, 111, 32]⟩ : ByteArray) ++ numS n.toNat).size ≤ maxLen := by simp only [ByteArray.size_append, szTo, maxLen]; omega
  have m3 : ((⟨#[32, 119, 105, 116, 104, 32]⟩ : ByteArray) ++ numS a.toNat).size ≤ maxLen := by simp only [ByteArray.size_append, szWith, maxLen]; omega
  have m4 : ((⟨#[32, 119, 105, 116, 104, 32]⟩ : ByteArray) ++ numS a.toNat ++ (⟨#[32, 97, 98, 115, 116, 97, 105, 110, 105, 110, 103]⟩ : ByteArray)).size ≤ maxLen := by simp only [ByteArray.size_append, szWith, szAbst, maxLen]; omega
  have m5 : (numS y.toNat ++ (⟨#[32, 116, 111, 32]⟩ : ByteArray) ++ numS n.toNat ++ ((⟨#[32, 119, 105, 116, 104, 32]⟩ : ByteArray) ++ numS a.toNat ++ (⟨#[32, 97, 98, 115, 116, 97, 105, 110, 105, 110, 103]⟩ : ByteArray))).size ≤ maxLen := by simp only [ByteArray.size_append, szTo, szWith, szAbst, maxLen]; omega
  have hW : Below w.heap.size w (w.alloc (.cells #[.int .i64 y, .int .i64 n, .int .i64 a] 25)) := below_alloc _
  have hT1 := pow10_below hT hW
  have c0 := cell_regrown (cell_of_row (w.alloc (.cells #[.int .i64 y, .int .i64 n, .int .i64 a] 25)) w.heap.size 0 _ _ _ (heap_new rfl))
  have c1 := cell_regrown (cell_of_row (w.alloc (.cells #[.int .i64 y, .int .i64 n, .int .i64 a] 25)) w.heap.size 1 _ _ _ (heap_new rfl))
  have c2 := cell_regrown (cell_of_row (w.alloc (.cells #[.int .i64 y, .int .i64 n, .int .i64 a] 25)) w.heap.size 2 _ _ _ (heap_new rfl))
  by_cases h : 0 < a
  · have E := Lib.hid (votS_yes (y := y) (n := n) h)
    go_enter Tryz.func39, Tryz.ntmps39
    go_wp2_with fail
    refine wp_region_quiet_below (by kernel_rfl) (by kernel_rfl) ?_
    repeat (go_big_quiet_step ((go_at_call 60; exact Calls.regrown_of (itoa_tab _ _ (pow10_below hT1 (below_regrown _ _ _)) (by omega) (by omega)))))
    refine wpQuiet_nil ?_
    intro _ hw'
    obtain ⟨⟨dq, osq⟩, hw''⟩ := hw'
    subst hw''
    have d2 := c2 dq osq
    have hT2 := pow10_below hT1 (below_regrown _ dq osq)
    go_wp2_with fail
    refine (itoa_tab _ _ hT2 a0 (by omega)).mono ?_
    rintro e w3 ⟨rfl, b3⟩
    go_wp2
    go_ret
    exact ⟨ret_str E.out.symm, below_trans (below_grow hW dq osq) b3⟩
  · have E := Lib.hid (votS_no (y := y) (n := n) h)
    go_enter Tryz.func39, Tryz.ntmps39
    go_wp2_with fail
    refine wp_region_quiet_below (by kernel_rfl) (by kernel_rfl) ?_
    repeat (go_big_quiet_step ((go_at_call 60; exact Calls.regrown_of (itoa_tab _ _ (pow10_below hT1 (below_regrown _ _ _)) (by omega) (by omega)))))
    refine wpQuiet_nil ?_
    intro _ hw'
    obtain ⟨⟨dq, osq⟩, hw''⟩ := hw'
    subst hw''
    have d2 := c2 dq osq
    go_wp2
    go_ret
    exact ⟨ret_str E.out.symm, below_grow hW dq osq⟩

end Go.Proofs.YthphjncgbaknnaaGreatDoor
