/-
  YthphjncgbaknnaaGreatDoorMinQ: ParseEntry's small parts: l21Small, wordAt, by contracts. (Printed by wip/gen/minq.py.)
-/
import Derived.Test.YthphjncgbaknnaaGreatDoorMinP
import Derived.Test.YthphjncgbaknnaaGreatDoorSplit
import Derived.RegionTactic
namespace Go.Proofs.YthphjncgbaknnaaGreatDoor
open Go Go.RowKit Go.Sort
set_option linter.unusedVariables false
set_option linter.unusedSimpArgs false

theorem small_0 {s : ByteArray} (h : s.size = 0) : smallS s = ⟨#[]⟩ := by unfold smallS; rw [dif_neg (by omega)]
theorem small_lo {s : ByteArray} (h : 0 < s.size) (h1 : (s[0].toNat : Int) < 65) : smallS s = ⟨#[]⟩ := by unfold smallS; rw [dif_pos h, if_pos (.inl h1)]
theorem small_hi {s : ByteArray} (h : 0 < s.size) (h1 : 90 < (s[0].toNat : Int)) : smallS s = ⟨#[]⟩ := by unfold smallS; rw [dif_pos h, if_pos (.inr h1)]
theorem small_in {s : ByteArray} (h : 0 < s.size) (h1 : ¬ (s[0].toNat : Int) < 65) (h2 : ¬ 90 < (s[0].toNat : Int)) : smallS s = lowB s[0] ++ s.extract 1 s.size := by unfold smallS; rw [dif_pos h, if_neg (by omega)]
theorem small_sz (s : ByteArray) : (smallS s).size ≤ s.size := by
  unfold smallS
  split
  · split
    · exact Nat.zero_le _
    · rw [ByteArray.size_append, ByteArray.size_extract]; show 1 + _ ≤ _; omega
  · exact Nat.zero_le _
theorem low_of {b : UInt8} (h1 : 65 ≤ b.toNat) (h2 : b.toNat ≤ 90) : (⟨#[UInt8.ofNat (b.toNat - 65) + 97]⟩ : ByteArray) = lowB b := by
  unfold lowB
  have e : UInt8.ofNat (b.toNat - 65) + 97 = UInt8.ofNat (((b.toNat : Int) - 65 + 97) % 256).toNat := by
    apply UInt8.toNat_inj.1
    rw [UInt8.toNat_add, UInt8.toNat_ofNat', UInt8.toNat_ofNat']
    show ((b.toNat - 65) % 256 + 97) % 256 = _ % 256
    omega
  rw [e]
theorem size_zeroE {p : ByteArray} (h : p.size = 0) : p = ⟨#[]⟩ := by
  cases p with
  | mk d => cases d with | mk l => cases l with
    | nil => rfl
    | cons a t => cases h

set_option maxHeartbeats 400000 in
theorem l21Small_any (s : ByteArray) (w : World) (h1 : s.size ≤ 1048576) : Calls Tryz.prog 53 #[.string s] w fun e w' => e = .returned (.string (smallS s)) ∧ Below w.heap.size w w' := by
  by_cases h0 : s.size = 0
  · have e := size_zeroE h0
    subst e
    go_enter Tryz.func53, Tryz.ntmps53
    go_wp2
    go_ret
    exact ⟨ret_str (small_0 rfl).symm, Below.refl _ _⟩
  have hp : 0 < s.size := by omega
  have hE := toList_neE hp
  by_cases ha : (s[0].toNat : Int) < 65
  · have E := Lib.hid (small_lo hp ha)
    go_enter Tryz.func53, Tryz.ntmps53
    go_wp2
    go_ret
    exact ⟨ret_str E.out.symm, Below.refl _ _⟩
  by_cases hb : 90 < (s[0].toNat : Int)
  · have E := Lib.hid (small_hi hp hb)
    go_enter Tryz.func53, Tryz.ntmps53
    go_wp2
    go_ret
    exact ⟨ret_str E.out.symm, Below.refl _ _⟩
  have E := Lib.hid (small_in hp ha hb)
  have kc := fun (x : Int) => conv1 w x
  have hb2 : 65 ≤ s[0].toNat ∧ s[0].toNat ≤ 90 := by omega
  have HB2 := Lib.hid hb2
  clear hb2
  have hz : (s.extract 1 s.size).size = s.size - 1 := by rw [ByteArray.size_extract]; omega
  go_enter Tryz.func53, Tryz.ntmps53
  go_wp2_with fail
  go_region
  go_wp2
  go_ret
  exact ⟨ret_str (by rw [E.out]; exact congrArg (· ++ s.extract 1 s.size) (low_of HB2.out.1 HB2.out.2)), (below_alloc _).drew⟩

theorem wdA_at {ws : List ByteArray} {i : Nat} {x : ByteArray} (h : ws[i]? = some x) : wdA ws i = smallS x := by
  have hi := (List.getElem?_eq_some_iff.1 h).1
  unfold wdA wdI
  rw [if_pos hi, List.getD_eq_getElem?_getD, h]; rfl
theorem wdA_out {ws : List ByteArray} {i : Nat} (h : ¬ i < ws.length) : wdA ws i = ⟨#[]⟩ := if_neg h

set_option maxHeartbeats 400000 in
theorem wordAt_any (A : Option Addr) (n c : Nat) (ws : List ByteArray) (i : Nat) (w : World) (ha : Rd stV 1 w A n c ws) (hg : ∀ x ∈ ws, x.size ≤ 1048576) (hi : i ≤ 1000) :
    Calls Tryz.prog 47 #[.slice A n c, .int .i64 i] w fun e w' => e = .returned (.string (wdA ws i)) ∧ Below w.heap.size w w' := by
  have hl := ha.len
  by_cases hlt : i < n
  rotate_left
  · have E := Lib.hid (wdA_out (ws := ws) (i := i) (by omega))
    have hq : (n : Int) ≤ (i : Int) := by omega
    clear hlt
    go_enter Tryz.func47, Tryz.ntmps47
    go_wp2
    go_ret
    exact ⟨ret_str E.out.symm, Below.refl _ _⟩
  obtain ⟨b, oo, s, rfl, hs, hc⟩ := ha.st (i := i) hlt
  have h1 := hg s (List.mem_of_getElem? hs)
  have W := Lib.hid (wdA_at hs)
  clear hs hl ha hg
  by_cases h0 : s.size = 0
  · have e := size_zeroE h0
    subst e
    go_enter Tryz.func47, Tryz.ntmps47
    go_wp2
    go_ret
    exact ⟨ret_str (W.out.trans (small_0 rfl)).symm, Below.refl _ _⟩
  have hp : 0 < s.size := by omega
  have hE := toList_neE hp
  by_cases ha : (s[0].toNat : Int) < 65
  · have E := Lib.hid (W.out.trans (small_lo hp ha))
    go_enter Tryz.func47, Tryz.ntmps47
    go_wp2
    go_ret
    exact ⟨ret_str E.out.symm, Below.refl _ _⟩
  by_cases hb : 90 < (s[0].toNat : Int)
  · have E := Lib.hid (W.out.trans (small_hi hp hb))
    go_enter Tryz.func47, Tryz.ntmps47
    go_wp2
    go_ret
    exact ⟨ret_str E.out.symm, Below.refl _ _⟩
  have E := Lib.hid (W.out.trans (small_in hp ha hb))
  have kc := fun (x : Int) => conv1 w x
  have hb2 : 65 ≤ s[0].toNat ∧ s[0].toNat ≤ 90 := by omega
  have HB2 := Lib.hid hb2
  clear hb2
  have hz : (s.extract 1 s.size).size = s.size - 1 := by rw [ByteArray.size_extract]; omega
  go_enter Tryz.func47, Tryz.ntmps47
  have hcA : ∀ o : Obj, (w.alloc o).cell? ⟨b, oo + i, none⟩ = some (.string s) := fun o => cell_below (below_alloc o) hc
  go_wp2_with fail
  go_region
  go_wp2
  go_ret
  exact ⟨ret_str (by rw [E.out]; exact congrArg (· ++ s.extract 1 s.size) (low_of HB2.out.1 HB2.out.2)), (below_alloc _).drew⟩

end Go.Proofs.YthphjncgbaknnaaGreatDoor
