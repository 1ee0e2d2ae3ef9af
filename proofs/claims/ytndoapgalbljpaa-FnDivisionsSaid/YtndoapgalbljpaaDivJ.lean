/-
  YtndoapgalbljpaaDivJ: SeparateParts' helpers: upTo, l1Least. (Printed by wip/gen/divj.py.)
-/
import Derived.Test.YtndoapgalbljpaaDivB
import Derived.Test.YtndoapgalbljpaaPartM
namespace Go.Proofs.Ytndoapgalbljpaa
open Go Go.RowKit Go.Sort
set_option linter.unusedVariables false

theorem idM_succ (k : Nat) : idM (k + 1) = idM k ++ [(k : Int)] := by simp [idM, List.range_succ]
set_option maxRecDepth 100000 in
set_option maxHeartbeats 1000000 in
theorem upTo_any (n : Nat) (w : World) (hn : n ≤ 1048576) :
    Calls Try.prog 46 #[.int .i64 (n : Int)] w fun e w' => (∃ B d, e = .returned (.slice B n d) ∧ Own inV 1 w' w.heap.size 3 B n d (idM n)) ∧ Below w.heap.size w w' := by
  obtain ⟨i0, hii, hz0, hz1, hz2⟩ := info_parts Try.infoin
  have oe := Own.empty inV 1 w 3
  go_enter Try.func46, Try.ntmps46
  go_wp2
  go_loopw [3, 7] (fun v kv wr => ∃ k : Nat, k ≤ n ∧ kv = .int .i64 k ∧ (∃ B d, v = .slice B k d ∧ Own inV 1 wr w.heap.size 3 B k d (idM k)) ∧ Below w.heap.size w wr) (fun _ kv _ => n - (intOf kv).toNat)
  case atStart => exact ⟨0, Nat.zero_le _, rfl, ⟨_, 0, rfl, oe⟩, below_alloc _⟩
  case round =>
    clear oe
    obtain ⟨k, hk, rfl, ⟨B, d, rfl, ho⟩, hbw⟩ := hrel
    have HO := Lib.hid ho
    clear ho
    by_cases hlt : k < n
    · have E := Lib.hid (idM_succ k)
      go_wp2_with (at_builtin; refine wpList_push rfl _ _ _ rfl w.heap.size 3 i0 (.int .i64 0) 1 8 Try.underlying38 hii hz0 hz1 hz2 rfl (by omega) inV inV_len one_int2 B k d _ rfl HO.out (k : Int) _ rfl _ rfl (by first | rfl | simp) (by simp only [maxLen]; omega) (by omega) hbw.size ?_; intro B3 d3 w3 ho3 hg3)
      go_roundw
      case rel => exact ⟨k + 1, by omega, by go_num, ⟨B3, d3, by go_num, by rw [E.out]; exact ho3⟩, below_push hbw HO.out hg3 (Nat.le_refl _)⟩
      case measure => first | (simp [intOf]; done) | (simp [intOf]; omega)
    · obtain rfl : k = n := by omega
      go_wp2
      go_ret
      exact ⟨⟨_, _, rfl, HO.out⟩, hbw⟩

theorem l1Least_any (x y : Int) (w : World) : Calls Try.prog 47 #[.int .i64 x, .int .i64 y] w fun e w' => e = .returned (.int .i64 (min x y)) ∧ w = w' := by
  by_cases h : x < y
  · have E := Lib.hid (show min x y = x from Int.min_eq_left (by omega))
    go_enter Try.func47, Try.ntmps47
    go_wp2
    go_ret
    exact ⟨ret_int E.out.symm, rfl⟩
  · have E := Lib.hid (show min x y = y from Int.min_eq_right (by omega))
    go_enter Try.func47, Try.ntmps47
    go_wp2
    go_ret
    exact ⟨ret_int E.out.symm, rfl⟩

end Go.Proofs.Ytndoapgalbljpaa

