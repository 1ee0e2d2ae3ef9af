/-
  YthphjncgbaknnaaGreatDoorMinT: the sentences of minutes: their parts (l21Capital, passedWord, votesText, l11Votes), by contracts.
-/
import Derived.Test.YthphjncgbaknnaaGreatDoorMinA
import Derived.Test.YthphjncgbaknnaaGreatDoorTab
import Derived.Test.YthphjncgbaknnaaGreatDoorSt
import Derived.Deep.RegionLaw
import Derived.Laws.BytesArg
namespace Go.Proofs.YthphjncgbaknnaaGreatDoor
open Go Go.RowKit Go.Sort
set_option linter.unusedVariables false

theorem passed_any (b : Bool) (x y : ByteArray) (w : World) : Calls Tryz.prog 38 #[.bool b, .string x, .string y] w fun e w' => e = .returned (.string (if b then x else y)) ∧ w' = w := by
  cases b
  · go_enter Tryz.func38, Tryz.ntmps38
    go_wp2
    go_ret
    exact ⟨rfl, rfl⟩
  · go_enter Tryz.func38, Tryz.ntmps38
    go_wp2
    go_ret
    exact ⟨rfl, rfl⟩

/-- One letter, made of a list of one byte. -/
theorem conv1 (W : World) (x : Int) : (convert 22 9 (.slice (some ⟨W.heap.size, 0, none⟩) 1 1)).run Tryz.prog (W.alloc (.cells #[.int .u8 x] 5)).drew = .ok (.string ⟨#[UInt8.ofNat x.toNat]⟩) (W.alloc (.cells #[.int .u8 x] 5)).drew := by
  have h := run_convert_bytes_arg (P := Tryz.prog) (W.alloc (.cells #[.int .u8 x] 5)).drew 22 5 (by kernel_rfl) (by kernel_rfl) W.heap.size 0 1 1 [x] rfl (fun i hi => by
    obtain rfl : i = 0 := by omega
    exact cell_of_row _ W.heap.size 0 _ _ _ (heap_new (by simp))) 9 (by kernel_rfl)
  exact h
def capB (b : UInt8) : ByteArray := ⟨#[UInt8.ofNat (((b.toNat : Int) - 97 + 65) % 256).toNat]⟩
def capS (s : ByteArray) : ByteArray := if h : 0 < s.size then capB (s[0]'h) ++ s.extract 1 s.size else ByteArray.empty
theorem capS_size (s : ByteArray) : (capS s).size ≤ s.size := by
  unfold capS
  split
  · rw [ByteArray.size_append, ByteArray.size_extract]
    show 1 + _ ≤ _
    omega
  · exact Nat.zero_le _

set_option maxHeartbeats 400000 in
theorem capital_any (s : ByteArray) (w : World) (h0 : 0 < s.size) (h1 : s.size ≤ 1048576) : Calls Tryz.prog 42 #[.string s] w fun e w' => e = .returned (.string (capS s)) ∧ Below w.heap.size w w' := by
  have E : Hid (capS s = capB s[0] ++ s.extract 1 s.size) := dif_pos h0
  have kc := fun (x : Int) => conv1 w x
  have hz : (s.extract 1 s.size).size = s.size - 1 := by rw [ByteArray.size_extract]; omega
  go_enter Tryz.func42, Tryz.ntmps42
  go_wp2_with fail
  go_region
  go_wp2
  go_ret
  exact ⟨ret_str E.out.symm, (below_alloc _).drew⟩
end Go.Proofs.YthphjncgbaknnaaGreatDoor
