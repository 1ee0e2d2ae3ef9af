/-
  YtcockjjilcapaaaGreatDoorBalDZ: ballots: what is drawn for the great law on slips. (Printed by wip/gen/zslip.py.)
-/
import Derived.Test.YtcockjjilcapaaaGreatDoorBalDB
import Derived.Test.YtcockjjilcapaaaGreatDoorBalX
import Derived.Test.YtcockjjilcapaaaGreatDoorSlipP
import Derived.Test.YtcockjjilcapaaaGreatDoorSpo
import Derived.Test.YtcockjjilcapaaaGreatDoorVee
namespace Go.Proofs.YtcockjjilcapaaaGreatDoor
open Go Go.RowKit Go.Sort
set_option linter.unusedVariables false

theorem slipL_22 (x : BA) : (slipL x).size ≤ 22 := by
  unfold slipL
  by_cases h : bOK x = true
  · rw [if_pos h]; exact slip_size h
  · rw [if_neg h]; decide
theorem slipL_hit {x : BA} (h : bOK x = true) : parB (slipL x) = (x, true) := parB_hit h (by unfold slipL; rw [if_pos h])
theorem lead_poll {l : List BA} {r : List Int} (h : leaB l r = true) : pollB l r = true := by
  cases hp : pollB l r
  · rw [(lea_no hp).1] at h; cases h
  · rfl

set_option maxRecDepth 100000 in
set_option maxHeartbeats 2000000 in
theorem drawSlip_any (A : Option Addr) (n c : Nat) (l : List Int) (w : World) (ha : Rd byV 1 w A n c l) (hb : ∀ x ∈ l, 0 ≤ x ∧ x ≤ 255) : Calls Tryz.prog 5 #[.slice A n c] w fun e w' => (∃ x : BA, e = .returned (.agg #[.int .i64 x.code, .string x.ch]) ∧ BaS x) ∧ Below w.heap.size w w' := by
  have R0 := Lib.hid (own_one (enc := baV) w #[.int .i64 0, .string ⟨#[]⟩] 25 (⟨0, ⟨#[]⟩⟩ : BA) rfl rfl)
  have b0 := below_alloc (w := w) (.cells #[.int .i64 0, .string ⟨#[]⟩] 25)
  have hws : w.heap.size < (w.alloc (.cells #[.int .i64 0, .string ⟨#[]⟩] 25)).heap.size := by simp
  have hsz : (w.alloc (.cells #[.int .i64 0, .string ⟨#[]⟩] 25)).heap.size = w.heap.size + 1 := by simp
  have ha1 := ha.below b0
  clear ha
  go_enter Tryz.func5, Tryz.ntmps5
  go_wp2_with fail
  generalize hwa : w.alloc (.cells #[.int .i64 0, .string ⟨#[]⟩] 25) = wa at *
  clear hwa
  have C0 := Lib.hid (Cur.start ha1 hb)
  have c0 := below_alloc (w := wa) (.cells #[.slice A n c, .int .i64 0, .int .u64 0] 44)
  have R1 := Lib.hid (R0.out.below c0)
  have hN : ∀ k, blockOf (some (⟨w.heap.size, 0, none⟩ : Addr)) = some k → k ≠ wa.heap.size := fun k hk => by simp [blockOf] at hk; omega
  have hq2 : wa.heap.size ≤ (wa.alloc (.cells #[.slice A n c, .int .i64 0, .int .u64 0] 44)).heap.size := by simp
  generalize hwb : wa.alloc (.cells #[.slice A n c, .int .i64 0, .int .u64 0] 44) = wb at *
  clear hwb
  have HZ := Lib.hid hsz
  clear hsz
  refine (ballot_any (w.heap.size + 1) 0 _ (by rw [← HZ.out]; exact C0.out) (by omega)).mono ?_
  rintro e w2 ⟨⟨x, rfl, hx⟩, hc, hg⟩
  have X := Lib.hid hx
  rw [← HZ.out] at hg
  have T2 := Lib.hid (b0.trans ((c0.mono (Nat.le_of_lt hws)).trans ((below_cur hg (Nat.le_refl _) hq2).mono (Nat.le_of_lt hws))))
  have R2 := Lib.hid (R1.out.curOld hg hN)
  clear hc hg C0 R0 R1 b0 c0 hx
  obtain ⟨⟨r0, r1⟩, z0, z1⟩ := bx_cells R2.out
  obtain ⟨y0, g0⟩ := bx_set0 R2.out (x.code)
  obtain ⟨y1, g1⟩ := bx_set1 y0 (x.ch)
  have TF := Lib.hid ((T2.out).grown (grown_trans g0 g1) (T2.out).size (fun k hk => by injection hk with hk; omega))
  obtain ⟨⟨v0, v1⟩, -⟩ := bx_cells y1
  clear y0 g0 y1 g1
  go_wp2
  exact bodyPost_ret (v := .agg #[.int .i64 x.code, .string x.ch]) (by simp [results, Tryz.results5, go_sem, v0, v1]) rfl ⟨⟨_, rfl, X.out⟩, TF.out⟩

set_option maxRecDepth 100000 in
set_option maxHeartbeats 2000000 in
theorem drawParseS_any (A : Option Addr) (n c : Nat) (l : List Int) (w : World) (ha : Rd byV 1 w A n c l) (hb : ∀ x ∈ l, 0 ≤ x ∧ x ≤ 255) : Calls Tryz.prog 9 #[.slice A n c] w fun e w' => (∃ s : ByteArray, e = .returned (.string s) ∧ s.size ≤ 24) ∧ Below w.heap.size w w' := by
  have C0 := Lib.hid (Cur.start ha hb)
  have b0 := below_alloc (w := w) (.cells #[.slice A n c, .int .i64 0, .int .u64 0] 44)
  have hgw : w.heap.size < (w.alloc (.cells #[.slice A n c, .int .i64 0, .int .u64 0] 44)).heap.size := by simp
  go_enter Tryz.func9, Tryz.ntmps9
  go_wp2_with fail
  generalize hw0 : w.alloc (.cells #[.slice A n c, .int .i64 0, .int .u64 0] 44) = w0 at *
  clear hw0
  refine (ballot_any w.heap.size 0 _ C0.out (by omega)).mono ?_
  rintro e w1 ⟨⟨x, rfl, hx⟩, hc, hg⟩
  have C1 := Lib.hid hc
  have G1 := Lib.hid hg
  have X := Lib.hid hx
  clear hx
  clear hc hg C0
  go_wp2_with fail
  refine (specSlipText_any x _ (bas_sz X.out)).mono ?_
  rintro e w2 ⟨rfl, b2⟩
  have C2 := Lib.hid (C1.out.below b2)
  have G2 := Lib.hid (grown_below G1.out b2)
  have S := Lib.hid (show (slipL x).size ≤ 22 from slipL_22 x)
  generalize slipL x = s at *
  have hs := S.out
  clear C1 G1 b2
  go_wp2_with fail
  refine (one_any w.heap.size 12 4 _ (C2.out.le (by omega)) (by omega) (by omega) (by omega)).mono ?_
  rintro e w3 ⟨⟨y, rfl⟩, hc, hg⟩
  have C3 := Lib.hid hc
  have G3 := Lib.hid (grown_trans G2.out hg)
  clear hc hg C2 G2
  cases y
  · go_wp2
    go_ret
    exact ⟨⟨_, rfl, by omega⟩, (b0.trans (below_cur G3.out (Nat.le_refl _) (Nat.le_of_lt hgw)))⟩
  · go_wp2_with fail
    refine (spoilt_any w.heap.size 14 s ⟨#[48, 35, 32, 45, 97]⟩ _ (C3.out.le (by omega)) (by omega) (by omega) (by decide) (by decide)).mono ?_
    rintro e w4 ⟨⟨x, rfl, hx⟩, hc, hg⟩
    have G4 := Lib.hid (grown_trans G3.out hg)
    clear hc hg C3 G3
    go_wp2
    go_ret
    exact ⟨⟨_, rfl, by omega⟩, (b0.trans (below_cur G4.out (Nat.le_refl _) (Nat.le_of_lt hgw)))⟩

set_option maxRecDepth 100000 in
set_option maxHeartbeats 2000000 in
theorem drawGood_any (A : Option Addr) (n c : Nat) (l : List Int) (w : World) (ha : Rd byV 1 w A n c l) (hb : ∀ x ∈ l, 0 ≤ x ∧ x ≤ 255) : Calls Tryz.prog 27 #[.slice A n c] w fun e w' => (∃ B q d l R m dr r, e = .returned (.tuple #[.slice B q d, .slice R m dr]) ∧ q ≤ 13 ∧ m ≤ 21 ∧ OwnB w' w.heap.size B q d l ∧ Own inV 1 w' w.heap.size 3 R m dr r) ∧ Below w.heap.size w w' := by
  have C0 := Lib.hid (Cur.start ha hb)
  have b0 := below_alloc (w := w) (.cells #[.slice A n c, .int .i64 0, .int .u64 0] 44)
  have hgw : w.heap.size < (w.alloc (.cells #[.slice A n c, .int .i64 0, .int .u64 0] 44)).heap.size := by simp
  go_enter Tryz.func27, Tryz.ntmps27
  go_wp2_with fail
  generalize hw0 : w.alloc (.cells #[.slice A n c, .int .i64 0, .int .u64 0] 44) = w0 at *
  clear hw0
  refine (box_any w.heap.size 0 _ C0.out (by omega)).mono ?_
  rintro e w1 ⟨⟨B, q, d, lp, rfl, hq, o1⟩, hc, hg⟩
  have C1 := Lib.hid hc
  have G1 := Lib.hid hg
  have L1 := Lib.hid o1
  clear hc hg o1 C0
  go_wp2_with fail
  refine (roll_any w.heap.size 300 _ (C1.out.le (by omega)) (by omega)).mono ?_
  rintro e w2 ⟨⟨R, m, dr, r, rfl, hm, o2⟩, hc, hg⟩
  have G2 := Lib.hid (grown_trans G1.out hg)
  have L2 := Lib.hid (L1.out.cur hg hgw)
  have hw1 : w.heap.size ≤ w1.heap.size := Nat.le_trans (Nat.le_of_lt hgw) G1.out.size
  have R2 := Lib.hid (o2.base_le (b := w.heap.size) hw1)
  clear hc hg o2 C1 G1 L1
  go_wp2
  go_ret2
  exact ⟨⟨_, _, _, _, _, _, _, _, rfl, hq, hm, L2.out.base_le (Nat.le_of_lt hgw), R2.out⟩, (b0.trans (below_cur G2.out (Nat.le_refl _) (Nat.le_of_lt hgw)))⟩

set_option maxRecDepth 100000 in
set_option maxHeartbeats 2000000 in
theorem drawLead_any (A : Option Addr) (n c : Nat) (l : List Int) (w : World) (ha : Rd byV 1 w A n c l) (hb : ∀ x ∈ l, 0 ≤ x ∧ x ≤ 255) : Calls Tryz.prog 11 #[.slice A n c] w fun e w' => (∃ B q d l R m dr r, e = .returned (.tuple #[.slice B q d, .slice R m dr]) ∧ q ≤ 13 ∧ m ≤ 21 ∧ OwnB w' w.heap.size B q d l ∧ Own inV 1 w' w.heap.size 3 R m dr r) ∧ Below w.heap.size w w' := by
  go_enter Tryz.func11, Tryz.ntmps11
  go_wp2_with fail
  refine (drawGood_any _ _ _ _ _ ha hb).mono ?_
  rintro e w1 ⟨⟨B, q, d, lp, R, m, dr, r, rfl, hq, hm, o1, o2⟩, b1⟩
  have O1 := Lib.hid o1
  have O2 := Lib.hid o2
  clear o1 o2
  go_wp2
  go_ret2
  exact ⟨⟨_, _, _, _, _, _, _, _, rfl, hq, hm, O1.out, O2.out⟩, b1⟩

theorem implPS_at {s : ByteArray} {y : BA} {b : Bool} (h : parB s = (y, b)) (mx : Int) (ev er : Value) (w : World) (hs : s.size ≤ 1048576) (hM : w.cell? ⟨0, 0, none⟩ = some (.int .i64 mx)) (hT : Lib.TabIs Tryz.prog w "internal/strconv.uint64pow10" .u64 Lib.pow10Tab)
    (hE : w.cell? ⟨1, 0, none⟩ = some ev) (hev : ev = .nilIface ∨ ∃ te pe, ev = .iface te pe) (hR : w.cell? ⟨2, 0, none⟩ = some er) (her : er = .nilIface ∨ ∃ te pe, er = .iface te pe) :
    Calls Tryz.prog 8 #[.string s] w fun e w' => e = .returned (.tuple #[.agg #[.int .i64 y.code, .string y.ch], .bool b]) ∧ Below w.heap.size w w' := by
  have := implParseSlip_any s mx ev er w hs hM hT hE hev hR her
  rw [h] at this
  exact this
theorem specPS_at {s : ByteArray} {y : BA} {b : Bool} (h : parB s = (y, b)) (w : World) (hs : s.size ≤ 1048576) :
    Calls Tryz.prog 10 #[.string s] w fun e w' => e = .returned (.tuple #[.agg #[.int .i64 y.code, .string y.ch], .bool b]) ∧ Below w.heap.size w w' := by
  have := specParseSlip_any s w hs
  rw [h] at this
  exact this

end Go.Proofs.YtcockjjilcapaaaGreatDoor
