/-
  YtndoapgalbljpaaDivE: clauses: the places of true in a list; ClosureOf, both sides. (Printed by wip/gen/dive.py.)
-/
import Derived.Test.YtndoapgalbljpaaDivB
import Derived.Test.YtndoapgalbljpaaCloM
namespace Go.Proofs.Ytndoapgalbljpaa
open Go Go.RowKit Go.Sort
set_option linter.unusedVariables false

theorem chs_all (bs : List Bool) {n : Nat} (h : bs.length = n) : chs (bs.take n) = chs bs := by rw [List.take_of_length_le (by omega)]


set_option maxRecDepth 100000 in
set_option maxHeartbeats 1000000 in
theorem chosen_any (A : Option Addr) (n c : Nat) (bs : List Bool) (w : World) (ha : Rd boV 1 w A n c bs) (hn : n ≤ 1048576) :
    Calls Try.prog 50 #[.slice A n c] w fun e w' => (∃ B q d, e = .returned (.slice B q d) ∧ Own inV 1 w' w.heap.size 3 B q d (chs bs)) ∧ Below w.heap.size w w' := by
  obtain ⟨i0, hii, hz0, hz1, hz2⟩ := info_parts Try.infoin
  have HL := Lib.hid ha.len
  have oe := Own.empty inV 1 w 3
  go_enter Try.func50, Try.ntmps50
  go_wp2
  go_loopw [3, 9] (fun v kv wr => ∃ k : Nat, k ≤ n ∧ kv = .int .i64 k ∧ (∃ B q d, v = .slice B q d ∧ q ≤ k ∧ Own inV 1 wr w.heap.size 3 B q d (chs (bs.take k))) ∧ Below w.heap.size w wr) (fun _ kv _ => n - (intOf kv).toNat)
  case atStart => exact ⟨0, Nat.zero_le _, rfl, ⟨_, 0, 0, rfl, Nat.le_refl _, oe⟩, below_alloc _⟩
  case round =>
    clear oe
    obtain ⟨k, hk, rfl, ⟨B, q, d, rfl, hq, ho⟩, hbw⟩ := hrel
    by_cases hlt : k < n
    · obtain ⟨b1, o1, b, rfl, hb, c0⟩ := (ha.below hbw).bo hlt
      have NX := Lib.hid (chs_take bs k b hb)
      have HO := Lib.hid ho
      clear hb ha ho
      cases b
      · have E := Lib.hid (show chs (bs.take (k + 1)) = chs (bs.take k) by rw [NX.out]; simp)
        go_wp2
        go_roundw
        case rel => exact ⟨k + 1, by omega, by go_num, ⟨B, q, d, rfl, by omega, by rw [E.out]; exact HO.out⟩, hbw⟩
        case measure => first | (simp [intOf]; done) | (simp [intOf]; omega)
      · have E := Lib.hid (show chs (bs.take (k + 1)) = chs (bs.take k) ++ [(k : Int)] by rw [NX.out]; simp)
        go_wp2_with (at_builtin; refine wpList_push rfl _ _ _ rfl w.heap.size 3 i0 (.int .i64 0) 1 8 Try.underlying38 hii hz0 hz1 hz2 rfl (by omega) inV inV_len one_int2 B q d _ rfl HO.out (k : Int) _ rfl _ rfl (by first | rfl | simp) (by simp only [maxLen]; omega) (by omega) hbw.size ?_; intro B3 d3 w3 ho3 hg3)
        go_roundw
        case rel => exact ⟨k + 1, by omega, by go_num, ⟨B3, q + 1, d3, rfl, by omega, by rw [E.out]; exact ho3⟩, below_push hbw HO.out hg3 (Nat.le_refl _)⟩
        case measure => first | (simp [intOf]; done) | (simp [intOf]; omega)
    · obtain rfl : k = n := by omega
      have E := Lib.hid (chs_all bs HL.out)
      have HO := Lib.hid ho
      clear ha ho
      go_wp2
      go_ret
      exact ⟨⟨_, _, _, rfl, by rw [← E.out]; exact HO.out⟩, hbw⟩


set_option maxRecDepth 100000 in
theorem l1Own_any (A : Option Addr) (n c : Nat) (r : List Int) (w : World) (ha : Rd inV 1 w A n c r) (hn : n ≤ 1048576) :
    Calls Try.prog 33 #[.slice A n c] w fun e w' => (∃ B d, e = .returned (.slice B n d) ∧ Own inV 1 w' w.heap.size 3 B n d r) ∧ Below w.heap.size w w' := by
  obtain ⟨i0, hi, hz0, hz1, hz2⟩ := info_parts Try.infoin
  go_enter Try.func33, Try.ntmps33
  go_wp2_with ((
     at_builtin
     refine wpList_pushAll rfl _ _ _ rfl w.heap.size 3 i0 (.int .i64 0) 1 8 Try.underlying38 hi hz0 hz1 hz2 rfl (by omega) inV inV_len one_int2 _ 0 0 [] rfl (Own.empty inV 1 _ 3) _ n c r rfl (ha.alloc _) (by simp only [maxLen]; omega) (by omega) (by first | simp; done | (simp; omega)) ?_
     intro B1 d1 w1 o1 g1
     simp only [Nat.zero_add, List.nil_append] at o1
     have b1 : Below w.heap.size w w1 := (below_alloc _).grown g1 (by simp) (fun k hk => by simp [blockOf] at hk; omega)))
  go_ret
  exact ⟨⟨_, _, rfl, o1⟩, b1⟩

def cloOk (l : List CL) (ws : List Int) : Bool := clsB l && risB ws 0 ((l.length : Int) - 1)
noncomputable def cloR (l : List CL) (ws : List Int) : List Int := if cloOk l ws then cloL l ws else []
theorem cloR_len (l : List CL) (ws : List Int) : (cloR l ws).length ≤ l.length := by
  unfold cloR; split
  · exact chP_len _ _
  · simp
theorem cloR_no {l : List CL} {ws : List Int} (h : cloOk l ws = false) : cloR l ws = [] := by simp [cloR, h]
theorem cloR_yes {l : List CL} {ws : List Int} (h : cloOk l ws = true) : cloR l ws = cloL l ws := by simp [cloR, h]


end Go.Proofs.Ytndoapgalbljpaa
