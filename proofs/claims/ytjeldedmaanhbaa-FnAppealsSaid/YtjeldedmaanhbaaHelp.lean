/-
  YtjeldedmaanhbaaHelp: the law file's own helpers (sz, to, eq, mark, held) at the element types Tally Point Int: each by a contract. Printed by a program (wip/gen/help.py).
-/
import Derived.Test.YtjeldedmaanhbaaCommon
import Derived.Test.YtjeldedmaanhbaaRows
import Derived.WalkSpells
import Derived.WalkLawsBesides
import Derived.Deep.DeepMust
namespace Go.Proofs.Ytjeldedmaanhbaa
open Go Go.RowKit Go.Sort
set_option linter.unusedVariables false

theorem bcell {W w1 : World} (hb : Below W.heap.size W w1) : (∀ b o, b < W.heap.size → w1.cell? ⟨b, o, none⟩ = W.cell? ⟨b, o, none⟩) ∧ (∀ b o, b < W.heap.size → w1.frozen? ⟨b, o, none⟩ = W.frozen? ⟨b, o, none⟩) :=
  ⟨fun b o h => hb.cell (p := ⟨b, o, none⟩) h, fun b o h => hb.frozen (p := ⟨b, o, none⟩) h⟩

/-- The mark of a bool. -/
def markB (k : Int) : Bool := (k % 3 == 0)

structure TA where
  yes : Int
  no : Int
  ab : Int
deriving DecidableEq
def taV (x : TA) : List Value := [.int .i64 x.yes, .int .i64 x.no, .int .i64 x.ab]
theorem taV_len (x : TA) : (taV x).length = 3 := rfl
theorem Rd.ta {w : World} {A : Option Addr} {n c : Nat} {l : List TA} (h : Rd taV 3 w A n c l) {i : Nat} (hi : i < n) :
    ∃ b off x, A = some ⟨b, off, none⟩ ∧ l[i]? = some x ∧ w.cell? ⟨b, off + i * 3, none⟩ = some (.int .i64 x.yes) ∧ w.cell? ⟨b, off + i * 3 + 1, none⟩ = some (.int .i64 x.no) ∧ w.cell? ⟨b, off + i * 3 + 2, none⟩ = some (.int .i64 x.ab) := by
  obtain ⟨b, off, e, hc⟩ := h.at_ (by omega)
  have hl : i < l.length := by have := h.len; omega
  exact ⟨b, off, l[i], e, List.getElem?_eq_getElem hl, hc i _ (List.getElem?_eq_getElem hl) 0 _ rfl, hc i _ (List.getElem?_eq_getElem hl) 1 _ rfl, hc i _ (List.getElem?_eq_getElem hl) 2 _ rfl⟩

set_option maxHeartbeats 400000 in
theorem eqTally_same (a0 : Int) (a1 : Int) (a2 : Int) (w : World) :
    Calls Try.prog 72 #[.agg #[.int .i64 a0, .int .i64 a1, .int .i64 a2], .agg #[.int .i64 a0, .int .i64 a1, .int .i64 a2]] w fun e w' => e = .returned (.bool true) ∧ Below w.heap.size w w' := by
  go_enter Try.func72, Try.ntmps72
  go_wp2
  go_ret
  exact ⟨rfl, below_alloc2 _ _⟩

set_option maxHeartbeats 400000 in
theorem toTally_any (a0 : Int) (a1 : Int) (a2 : Int) (w : World) :
    Calls Try.prog 71 #[.agg #[.int .i64 a0, .int .i64 a1, .int .i64 a2]] w fun e w' => e = .returned (.agg #[.int .i64 a0, .int .i64 a1, .int .i64 a2]) ∧ Below w.heap.size w w' := by
  go_enter Try.func71, Try.ntmps71
  go_wp2
  refine bodyPost_ret (v := .agg #[.int .i64 a0, .int .i64 a1, .int .i64 a2]) (by simp [results, Try.results71, go_sem]) rfl ⟨rfl, below_alloc3 _ _ _⟩

structure PT where
  ra : Int
  st : Int
  ta : Bool
  ap : Int
  yes : Int
  no : Int
  ab : Int
deriving DecidableEq
def ptV (x : PT) : List Value := [.int .i64 x.ra, .int .i64 x.st, .bool x.ta, .int .i64 x.ap, .int .i64 x.yes, .int .i64 x.no, .int .i64 x.ab]
theorem ptV_len (x : PT) : (ptV x).length = 7 := rfl
theorem Rd.pt {w : World} {A : Option Addr} {n c : Nat} {l : List PT} (h : Rd ptV 7 w A n c l) {i : Nat} (hi : i < n) :
    ∃ b off x, A = some ⟨b, off, none⟩ ∧ l[i]? = some x ∧ w.cell? ⟨b, off + i * 7, none⟩ = some (.int .i64 x.ra) ∧ w.cell? ⟨b, off + i * 7 + 1, none⟩ = some (.int .i64 x.st) ∧ w.cell? ⟨b, off + i * 7 + 2, none⟩ = some (.bool x.ta) ∧ w.cell? ⟨b, off + i * 7 + 3, none⟩ = some (.int .i64 x.ap) ∧ w.cell? ⟨b, off + i * 7 + 4, none⟩ = some (.int .i64 x.yes) ∧ w.cell? ⟨b, off + i * 7 + 5, none⟩ = some (.int .i64 x.no) ∧ w.cell? ⟨b, off + i * 7 + 6, none⟩ = some (.int .i64 x.ab) := by
  obtain ⟨b, off, e, hc⟩ := h.at_ (by omega)
  have hl : i < l.length := by have := h.len; omega
  exact ⟨b, off, l[i], e, List.getElem?_eq_getElem hl, hc i _ (List.getElem?_eq_getElem hl) 0 _ rfl, hc i _ (List.getElem?_eq_getElem hl) 1 _ rfl, hc i _ (List.getElem?_eq_getElem hl) 2 _ rfl, hc i _ (List.getElem?_eq_getElem hl) 3 _ rfl, hc i _ (List.getElem?_eq_getElem hl) 4 _ rfl, hc i _ (List.getElem?_eq_getElem hl) 5 _ rfl, hc i _ (List.getElem?_eq_getElem hl) 6 _ rfl⟩

set_option maxHeartbeats 400000 in
theorem eqPoint_same (a0 : Int) (a1 : Int) (a2 : Bool) (a3 : Int) (a4 : Int) (a5 : Int) (a6 : Int) (w : World) :
    Calls Try.prog 48 #[.agg #[.int .i64 a0, .int .i64 a1, .bool a2, .int .i64 a3, .int .i64 a4, .int .i64 a5, .int .i64 a6], .agg #[.int .i64 a0, .int .i64 a1, .bool a2, .int .i64 a3, .int .i64 a4, .int .i64 a5, .int .i64 a6]] w fun e w' => e = .returned (.bool true) ∧ Below w.heap.size w w' := by
  go_enter Try.func48, Try.ntmps48
  go_wp2_with fail
  refine (eqTally_same _ _ _ _).mono ?_
  rintro e w2 ⟨rfl, hb2⟩
  have hb0 := below_trans (below_alloc2 (w := w) _ _) hb2
  go_wp2
  go_ret
  exact ⟨rfl, hb0⟩

set_option maxHeartbeats 400000 in
theorem eqPointS_same (A B : Option Addr) (n m c d : Nat) (l : List PT) (w : World) (ha : Rd ptV 7 w A n c l) (hb : Rd ptV 7 w B m d l) :
    Calls Try.prog 11 #[.slice A n c, .slice B m d] w fun e w' => e = .returned (.bool true) ∧ Below w.heap.size w w' := by
  have hm := ha.le
  obtain rfl : n = m := ha.len.symm.trans hb.len
  go_enter Try.func11, Try.ntmps11
  go_wp2
  go_loopw [5] (fun i wr => ∃ k : Nat, k ≤ n ∧ i = .int .i64 k ∧ Below w.heap.size w wr) (fun i _ => n - (intOf i).toNat)
  case atStart => exact ⟨0, Nat.zero_le _, rfl, Below.refl _ _⟩
  case round =>
    obtain ⟨k, hk, rfl, hbw⟩ := hrel
    by_cases hlt : k < n
    · obtain ⟨b1, o1, s, rfl, hs, c0, c1, c2, c3, c4, c5, c6⟩ := (ha.below hbw).pt hlt
      obtain ⟨b2, o2, s', rfl, hs', d0, d1, d2, d3, d4, d5, d6⟩ := (hb.below hbw).pt hlt
      obtain rfl : s = s' := by rw [hs] at hs'; injection hs'
      clear hs hs' ha hb
      have k0 := cell_regrown c0
      have q0 := cell_regrown d0
      have k1 := cell_regrown c1
      have q1 := cell_regrown d1
      have k2 := cell_regrown c2
      have q2 := cell_regrown d2
      have k3 := cell_regrown c3
      have q3 := cell_regrown d3
      have k4 := cell_regrown c4
      have q4 := cell_regrown d4
      have k5 := cell_regrown c5
      have q5 := cell_regrown d5
      have k6 := cell_regrown c6
      have q6 := cell_regrown d6
      go_wp2
      refine wp_region_quiet_below (by kernel_rfl) (by kernel_rfl) ?_
      repeat (go_big_quiet_step ((go_at_call 48; exact Calls.regrown_of (eqPoint_same _ _ _ _ _ _ _ _))))
      refine wpQuiet_nil ?_
      intro _ hw'
      obtain ⟨⟨dq, osq⟩, hw''⟩ := hw'
      subst hw''
      go_wp2
      go_roundw
      case rel => exact ⟨k + 1, by omega, by go_num, below_grow hbw _ _⟩
      case measure => simp [intOf]; omega
    · go_wp2
      go_ret
      exact ⟨rfl, hbw⟩

set_option maxHeartbeats 400000 in
theorem toPoint_any (a0 : Int) (a1 : Int) (a2 : Bool) (a3 : Int) (a4 : Int) (a5 : Int) (a6 : Int) (w : World) :
    Calls Try.prog 44 #[.agg #[.int .i64 a0, .int .i64 a1, .bool a2, .int .i64 a3, .int .i64 a4, .int .i64 a5, .int .i64 a6]] w fun e w' => e = .returned (.agg #[.int .i64 a0, .int .i64 a1, .bool a2, .int .i64 a3, .int .i64 a4, .int .i64 a5, .int .i64 a6]) ∧ Below w.heap.size w w' := by
  go_enter Try.func44, Try.ntmps44
  go_wp2
  refine bodyPost_ret (v := .agg #[.int .i64 a4, .int .i64 a5, .int .i64 a6]) (by simp [results, Try.results71, go_sem]) rfl ?_
  go_wp2
  exact bodyPost_ret (v := .agg #[.int .i64 a0, .int .i64 a1, .bool a2, .int .i64 a3, .int .i64 a4, .int .i64 a5, .int .i64 a6]) (by simp [results, Try.results44, go_sem]) rfl ⟨rfl, below_trans (below_alloc3 _ _ _) (below_alloc3 _ _ _)⟩

theorem Try.infopt : (Try.prog.info? 53).map (fun i => (i.zero, i.size, i.bytes)) = some (some (.agg #[.int .i64 0, .int .i64 0, .bool false, .int .i64 0, .int .i64 0, .int .i64 0, .int .i64 0]), 7, 56) := by kernel_rfl

set_option maxHeartbeats 400000 in
theorem toPointS_any (A : Option Addr) (n c : Nat) (l : List PT) (w : World) (ha : Rd ptV 7 w A n c l) (hn : n ≤ 1048576) :
    Calls Try.prog 9 #[.slice A n c] w fun e w' => ∃ B d, e = .returned (.slice B n d) ∧ Own ptV 7 w' w.heap.size 53 B n d l ∧ Below w.heap.size w w' := by
  obtain ⟨i0, hi, hz0, hz1, hz2⟩ := info_parts Try.infopt
  go_enter Try.func9, Try.ntmps9
  go_wp2_with (at_make; refine wpList_make_full _ rfl _ _ _ rfl w.heap.size 53 i0 (.agg #[.int .i64 0, .int .i64 0, .bool false, .int .i64 0, .int .i64 0, .int .i64 0, .int .i64 0]) 7 Try.underlying24 hi hz0 hz1 .i64 .i64 _ _ n rfl rfl rfl rfl (by rw [hz2]; omega) (by simp only [maxLen]; omega) (Nat.le_refl _) ?_; intro w1 hown hg1)
  have ho : Own ptV 7 w1 w.heap.size 53 (some ⟨w.heap.size, 0, none⟩) n n (List.replicate n ⟨0, 0, false, 0, 0, 0, 0⟩) := ⟨by simp, by rw [← made_flat (z := (Value.cells (.agg #[.int .i64 0, .int .i64 0, .bool false, .int .i64 0, .int .i64 0, .int .i64 0, .int .i64 0]))) ptV_len (by omega) ⟨0, 0, false, 0, 0, 0, 0⟩ rfl]; exact hown⟩
  have hb1 : Below w.heap.size w w1 := below_of_grown hg1 (Nat.le_refl _) (fun k hk => by cases hk)
  clear hown hg1
  go_loopw [4] (fun i wr => ∃ k : Nat, k ≤ n ∧ i = .int .i64 k ∧ Own ptV 7 wr w.heap.size 53 (some ⟨w.heap.size, 0, none⟩) n n (l.take k ++ List.replicate (n - k) ⟨0, 0, false, 0, 0, 0, 0⟩) ∧ Below w.heap.size w wr) (fun i _ => n - (intOf i).toNat)
  case atStart => exact ⟨0, Nat.zero_le _, rfl, by simpa using ho, hb1⟩
  case round =>
    clear ho hb1
    obtain ⟨k, hk, rfl, ho, hbw⟩ := hrel
    by_cases hlt : k < n
    · obtain ⟨b1, o1, s, rfl, hs, c0, c1, c2, c3, c4, c5, c6⟩ := (ha.below hbw).pt hlt
      have hz := take_rep_get l ⟨0, 0, false, 0, 0, 0, 0⟩ k n hlt (by rw [ha.len]; exact Nat.le_refl _)
      have hsz := hbw.size
      clear ha
      have HS := Lib.hid hs
      clear hs
      go_wp2_with fail
      refine (toPoint_any _ _ _ _ _ _ _ _).mono ?_
      rintro e w2 ⟨rfl, hb2⟩
      have ho2 := ho.below hb2
      have q0 := ho2.cell ptV_len (j := 0) hz rfl
      have f0 := ho2.frozen (k * 7 + 0)
      have q1 := ho2.cell ptV_len (j := 1) hz rfl
      have f1 := ho2.frozen (k * 7 + 1)
      have q2 := ho2.cell ptV_len (j := 2) hz rfl
      have f2 := ho2.frozen (k * 7 + 2)
      have q3 := ho2.cell ptV_len (j := 3) hz rfl
      have f3 := ho2.frozen (k * 7 + 3)
      have q4 := ho2.cell ptV_len (j := 4) hz rfl
      have f4 := ho2.frozen (k * 7 + 4)
      have q5 := ho2.cell ptV_len (j := 5) hz rfl
      have f5 := ho2.frozen (k * 7 + 5)
      have q6 := ho2.cell ptV_len (j := 6) hz rfl
      have f6 := ho2.frozen (k * 7 + 6)
      simp only [Nat.add_zero] at q0 f0
      have HZ := Lib.hid hz
      clear hz
      go_wp2
      go_roundw
      case rel => exact ⟨k + 1, by omega, by go_num, ho2.fill ptV_len HS.out hlt, below_puts (ptV s) (k * 7) (below_trans hbw hb2) (Nat.le_refl _)⟩
      case measure => simp [intOf]; omega
    · obtain rfl : k = n := by omega
      go_wp2
      go_ret
      exact ⟨_, _, rfl, by simpa [← ha.len] using ho, hbw⟩

set_option maxHeartbeats 400000 in
theorem szPointS_no (A : Option Addr) (n c : Nat) (l : List PT) (left : Int) (w : World) (ha : Rd ptV 7 w A n c l) (h0 : 0 ≤ left) (h1 : left ≤ 1048576) (h : left < n) :
    Calls Try.prog 7 #[.slice A n c, .int .i64 left] w fun e w' => e = .returned (.int .i64 (-1)) ∧ w = w' := by
  have hm := ha.le
  clear ha
  go_enter Try.func7, Try.ntmps7
  go_wp2
  go_ret
  exact ⟨rfl, rfl⟩

set_option maxHeartbeats 400000 in
theorem szPointS_yes (A : Option Addr) (n c : Nat) (l : List PT) (left : Int) (w : World) (ha : Rd ptV 7 w A n c l) (h0 : 0 ≤ left) (h1 : left ≤ 1048576) (h : n ≤ left) :
    Calls Try.prog 7 #[.slice A n c, .int .i64 left] w fun e w' => e = .returned (.int .i64 (left - n)) ∧ w = w' := by
  have hm := ha.le
  clear ha
  go_enter Try.func7, Try.ntmps7
  go_wp2
  go_ret
  exact ⟨rfl, rfl⟩

def mkPoint (k : Int) : Nat → PT := fun (j : Nat) => (⟨(k + 7 * (j : Int)), (k + 7 * (j : Int) + 1), (markB (k + 7 * (j : Int) + 1 + 1)), (k + 7 * (j : Int) + 1 + 1 + 1), (k + 7 * (j : Int) + 1 + 1 + 1 + 1), (k + 7 * (j : Int) + 1 + 1 + 1 + 1 + 1), (k + 7 * (j : Int) + 1 + 1 + 1 + 1 + 1 + 1)⟩ : PT)
/-- The list of marks that markPointS leaves. -/
def marksPoint (k : Int) (n : Nat) : List PT := (List.range n).map (mkPoint k)
theorem marksPoint_get (k : Int) (n i : Nat) (hi : i < n) : (marksPoint k n)[i]? = some (mkPoint k i) := by simp [marksPoint, hi]
theorem marksPoint_len (k : Int) (n : Nat) : (marksPoint k n).length = n := by simp [marksPoint]

set_option maxHeartbeats 1000000 in
theorem markPointS_any (A : Option Addr) (n c base e0 : Nat) (l : List PT) (k0 : Int) (w : World) (ha : Own ptV 7 w base e0 A n c l) (h0 : 1 ≤ k0) (h1 : k0 ≤ 1000000000) (hn : n ≤ 4194304) (hsz : base ≤ w.heap.size) :
    Calls Try.prog 12 #[.slice A n c, .int .i64 k0] w fun e w' => e = .returned (.int .i64 (k0 + 7 * (n : Int))) ∧ Own ptV 7 w' base e0 A n c (marksPoint k0 n) ∧ w.grownBy w' (blockOf A) := by
  have hm := (ha.rd ptV_len).le
  go_enter Try.func12, Try.ntmps12
  go_wp2
  go_loopw [1, 5] (fun kv i wr => ∃ k : Nat, k ≤ n ∧ i = .int .i64 k ∧ kv = .int .i64 (k0 + 7 * (k : Int)) ∧ w.grownBy wr (blockOf A) ∧ ∃ l' : List PT, Own ptV 7 wr base e0 A n c l' ∧ (∀ j, j < k → l'[j]? = some (mkPoint k0 j))) (fun _ i _ => n - (intOf i).toNat)
  case atStart => exact ⟨0, Nat.zero_le _, rfl, by simp, World.grownBy.refl _ _, l, ha, fun j hj => absurd hj (by omega)⟩
  case round =>
    obtain ⟨k, hk, rfl, rfl, hg, l', ho, hup⟩ := hrel
    by_cases hlt : k < n
    · obtain ⟨g, rfl⟩ := ho.form (by omega)
      have hkl : k < l'.length := by rw [ho.len]; exact hlt
      have hsr := hg.size
      clear ha
      have HU := Lib.hid (set_upto hup hkl)
      clear hup
      have q0 := ho.cell ptV_len (j := 0) (List.getElem?_eq_getElem hkl) rfl
      have f0 := ho.frozen (k * 7 + 0)
      have q1 := ho.cell ptV_len (j := 1) (List.getElem?_eq_getElem hkl) rfl
      have f1 := ho.frozen (k * 7 + 1)
      have q2 := ho.cell ptV_len (j := 2) (List.getElem?_eq_getElem hkl) rfl
      have f2 := ho.frozen (k * 7 + 2)
      have q3 := ho.cell ptV_len (j := 3) (List.getElem?_eq_getElem hkl) rfl
      have f3 := ho.frozen (k * 7 + 3)
      have q4 := ho.cell ptV_len (j := 4) (List.getElem?_eq_getElem hkl) rfl
      have f4 := ho.frozen (k * 7 + 4)
      have q5 := ho.cell ptV_len (j := 5) (List.getElem?_eq_getElem hkl) rfl
      have f5 := ho.frozen (k * 7 + 5)
      have q6 := ho.cell ptV_len (j := 6) (List.getElem?_eq_getElem hkl) rfl
      have f6 := ho.frozen (k * 7 + 6)
      simp only [Nat.add_zero] at q0 f0
      obtain ⟨hp, hg2⟩ := ho.puts ptV_len k (mkPoint k0 k) hlt
      simp only [putCells, ptV, mkPoint, markB, Nat.add_assoc, Nat.reduceAdd] at hp hg2
      have HP := Lib.hid hp
      have HG := Lib.hid hg2
      clear hp hg2
      go_wp2
      go_roundw
      case rel => exact ⟨k + 1, by omega, by go_num, by go_num, grown_trans hg HG.out, _, HP.out, HU.out⟩
      case measure => simp [intOf]; omega
    · obtain rfl : k = n := by omega
      have e := upto_eq ho.len hup
      have HO : Own ptV 7 wr base e0 A k c (marksPoint k0 k) := by rw [e] at ho; exact ho
      have HH := Lib.hid HO
      clear e hup ho HO ha
      go_wp2
      go_ret
      exact ⟨rfl, HH.out, hg⟩

set_option maxHeartbeats 400000 in
theorem heldPointS_any (A : Option Addr) (n c : Nat) (k0 : Int) (w : World) (ha : Rd ptV 7 w A n c (marksPoint k0 n)) (h0 : 1 ≤ k0) (h1 : k0 ≤ 1000000000) (hn : n ≤ 4194304) :
    Calls Try.prog 13 #[.slice A n c, .int .i64 k0] w fun e w' => e = .returned (.int .i64 (k0 + 7 * (n : Int))) ∧ Below w.heap.size w w' := by
  have hm := ha.le
  go_enter Try.func13, Try.ntmps13
  go_wp2
  go_loopw [1, 5] (fun kv i wr => ∃ k : Nat, k ≤ n ∧ i = .int .i64 k ∧ kv = .int .i64 (k0 + 7 * (k : Int)) ∧ Below w.heap.size w wr) (fun _ i _ => n - (intOf i).toNat)
  case atStart => exact ⟨0, Nat.zero_le _, rfl, by simp, Below.refl _ _⟩
  case round =>
    obtain ⟨k, hk, rfl, rfl, hbw⟩ := hrel
    by_cases hlt : k < n
    · obtain ⟨b1, o1, s, rfl, hs, c0, c1, c2, c3, c4, c5, c6⟩ := (ha.below hbw).pt hlt
      obtain rfl : mkPoint k0 k = s := by rw [marksPoint_get k0 n k hlt] at hs; injection hs
      clear hs ha
      simp only [mkPoint, markB] at c0 c1 c2 c3 c4 c5 c6
      go_wp2
      go_roundw
      case rel => exact ⟨k + 1, by omega, by go_num, by go_num, hbw⟩
      case measure => simp [intOf]; omega
    · obtain rfl : k = n := by omega
      clear ha
      go_wp2
      go_ret
      exact ⟨rfl, hbw⟩

def inV (x : Int) : List Value := [.int .i64 x]
theorem inV_len (x : Int) : (inV x).length = 1 := rfl
theorem Rd.in {w : World} {A : Option Addr} {n c : Nat} {l : List Int} (h : Rd inV 1 w A n c l) {i : Nat} (hi : i < n) :
    ∃ b off x, A = some ⟨b, off, none⟩ ∧ l[i]? = some x ∧ w.cell? ⟨b, off + i, none⟩ = some (.int .i64 x) := by
  obtain ⟨b, off, e, hc⟩ := h.at_ (by omega)
  have hl : i < l.length := by have := h.len; omega
  exact ⟨b, off, l[i], e, List.getElem?_eq_getElem hl, by simpa using hc i _ (List.getElem?_eq_getElem hl) 0 _ rfl⟩

end Go.Proofs.Ytjeldedmaanhbaa
