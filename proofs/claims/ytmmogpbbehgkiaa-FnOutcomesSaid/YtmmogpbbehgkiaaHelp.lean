/-
  YtmmogpbbehgkiaaHelp: the law file's own helpers (sz, to, eq, mark, held) at the element types TraceStep Int: each by a contract. Printed by a program (wip/gen/help.py).
-/
import Derived.Test.YtmmogpbbehgkiaaCommon
import Derived.Test.YtmmogpbbehgkiaaRows
import Derived.WalkSpells
import Derived.WalkLawsBesides
import Derived.Deep.DeepMust
namespace Go.Proofs.Ytmmogpbbehgkiaa
open Go Go.RowKit Go.Sort
set_option linter.unusedVariables false
set_option maxRecDepth 100000

theorem bcell {W w1 : World} (hb : Below W.heap.size W w1) : (∀ b o, b < W.heap.size → w1.cell? ⟨b, o, none⟩ = W.cell? ⟨b, o, none⟩) ∧ (∀ b o, b < W.heap.size → w1.frozen? ⟨b, o, none⟩ = W.frozen? ⟨b, o, none⟩) :=
  ⟨fun b o h => hb.cell (p := ⟨b, o, none⟩) h, fun b o h => hb.frozen (p := ⟨b, o, none⟩) h⟩

/-- The mark of a bool. -/
def markB (k : Int) : Bool := (k % 3 == 0)

structure TS where
  m : Int
  k : Int
deriving DecidableEq
def tsV (x : TS) : List Value := [.int .i64 x.m, .int .i64 x.k]
theorem tsV_len (x : TS) : (tsV x).length = 2 := rfl
theorem Rd.ts {w : World} {A : Option Addr} {n c : Nat} {l : List TS} (h : Rd tsV 2 w A n c l) {i : Nat} (hi : i < n) :
    ∃ b off x, A = some ⟨b, off, none⟩ ∧ l[i]? = some x ∧ w.cell? ⟨b, off + i * 2, none⟩ = some (.int .i64 x.m) ∧ w.cell? ⟨b, off + i * 2 + 1, none⟩ = some (.int .i64 x.k) := by
  obtain ⟨b, off, e, hc⟩ := h.at_ (by omega)
  have hl : i < l.length := by have := h.len; omega
  exact ⟨b, off, l[i], e, List.getElem?_eq_getElem hl, hc i _ (List.getElem?_eq_getElem hl) 0 _ rfl, hc i _ (List.getElem?_eq_getElem hl) 1 _ rfl⟩

set_option maxHeartbeats 400000 in
theorem eqTraceStep_same (a0 : Int) (a1 : Int) (w : World) :
    Calls Try.prog 37 #[.agg #[.int .i64 a0, .int .i64 a1], .agg #[.int .i64 a0, .int .i64 a1]] w fun e w' => e = .returned (.bool true) ∧ Below w.heap.size w w' := by
  go_enter Try.func37, Try.ntmps37
  go_wp2
  go_ret
  exact ⟨rfl, below_alloc2 _ _⟩

set_option maxHeartbeats 400000 in
theorem eqTraceStepS_same (A B : Option Addr) (n m c d : Nat) (l : List TS) (w : World) (ha : Rd tsV 2 w A n c l) (hb : Rd tsV 2 w B m d l) :
    Calls Try.prog 10 #[.slice A n c, .slice B m d] w fun e w' => e = .returned (.bool true) ∧ Below w.heap.size w w' := by
  have hm := ha.le
  obtain rfl : n = m := ha.len.symm.trans hb.len
  go_enter Try.func10, Try.ntmps10
  go_wp2
  go_loopw [5] (fun i wr => ∃ k : Nat, k ≤ n ∧ i = .int .i64 k ∧ Below w.heap.size w wr) (fun i _ => n - (intOf i).toNat)
  case atStart => exact ⟨0, Nat.zero_le _, rfl, Below.refl _ _⟩
  case round =>
    obtain ⟨k, hk, rfl, hbw⟩ := hrel
    by_cases hlt : k < n
    · obtain ⟨b1, o1, s, rfl, hs, c0, c1⟩ := (ha.below hbw).ts hlt
      obtain ⟨b2, o2, s', rfl, hs', d0, d1⟩ := (hb.below hbw).ts hlt
      obtain rfl : s = s' := by rw [hs] at hs'; injection hs'
      clear hs hs' ha hb
      have k0 := cell_regrown c0
      have q0 := cell_regrown d0
      have k1 := cell_regrown c1
      have q1 := cell_regrown d1
      go_wp2
      refine wp_region_quiet_below (by kernel_rfl) (by kernel_rfl) ?_
      repeat (go_big_quiet_step ((go_at_call 37; exact Calls.regrown_of (eqTraceStep_same _ _ _))))
      refine wpQuiet_nil ?_
      intro _ hw'
      obtain ⟨⟨dq, osq⟩, hw''⟩ := hw'
      subst hw''
      go_wp2
      go_roundw
      case rel => exact ⟨k + 1, by omega, by go_num, below_grow hbw _ _⟩
      case measure => simp [intOf]; omega
    · go_wp2
      go_ret
      exact ⟨rfl, hbw⟩

set_option maxHeartbeats 400000 in
theorem toTraceStep_any (a0 : Int) (a1 : Int) (w : World) :
    Calls Try.prog 29 #[.agg #[.int .i64 a0, .int .i64 a1]] w fun e w' => e = .returned (.agg #[.int .i64 a0, .int .i64 a1]) ∧ Below w.heap.size w w' := by
  go_enter Try.func29, Try.ntmps29
  go_wp2
  refine bodyPost_ret (v := .agg #[.int .i64 a0, .int .i64 a1]) (by simp [results, Try.results29, go_sem]) rfl ⟨rfl, below_alloc3 _ _ _⟩

theorem Try.infots : (Try.prog.info? 50).map (fun i => (i.zero, i.size, i.bytes)) = some (some (.agg #[.int .i64 0, .int .i64 0]), 2, 16) := by kernel_rfl

set_option maxHeartbeats 400000 in
theorem toTraceStepS_any (A : Option Addr) (n c : Nat) (l : List TS) (w : World) (ha : Rd tsV 2 w A n c l) (hn : n ≤ 1048576) :
    Calls Try.prog 7 #[.slice A n c] w fun e w' => ∃ B d, e = .returned (.slice B n d) ∧ Own tsV 2 w' w.heap.size 50 B n d l ∧ Below w.heap.size w w' := by
  obtain ⟨i0, hi, hz0, hz1, hz2⟩ := info_parts Try.infots
  go_enter Try.func7, Try.ntmps7
  go_wp2_with (at_make; refine wpList_make_full _ rfl _ _ _ rfl w.heap.size 50 i0 (.agg #[.int .i64 0, .int .i64 0]) 2 Try.underlying27 hi hz0 hz1 .i64 .i64 _ _ n rfl rfl rfl rfl (by rw [hz2]; omega) (by simp only [maxLen]; omega) (Nat.le_refl _) ?_; intro w1 hown hg1)
  have ho : Own tsV 2 w1 w.heap.size 50 (some ⟨w.heap.size, 0, none⟩) n n (List.replicate n ⟨0, 0⟩) := ⟨by simp, by rw [← made_flat (z := (Value.cells (.agg #[.int .i64 0, .int .i64 0]))) tsV_len (by omega) ⟨0, 0⟩ rfl]; exact hown⟩
  have hb1 : Below w.heap.size w w1 := below_of_grown hg1 (Nat.le_refl _) (fun k hk => by cases hk)
  clear hown hg1
  go_loopw [4] (fun i wr => ∃ k : Nat, k ≤ n ∧ i = .int .i64 k ∧ Own tsV 2 wr w.heap.size 50 (some ⟨w.heap.size, 0, none⟩) n n (l.take k ++ List.replicate (n - k) ⟨0, 0⟩) ∧ Below w.heap.size w wr) (fun i _ => n - (intOf i).toNat)
  case atStart => exact ⟨0, Nat.zero_le _, rfl, by simpa using ho, hb1⟩
  case round =>
    clear ho hb1
    obtain ⟨k, hk, rfl, ho, hbw⟩ := hrel
    by_cases hlt : k < n
    · obtain ⟨b1, o1, s, rfl, hs, c0, c1⟩ := (ha.below hbw).ts hlt
      have hz := take_rep_get l ⟨0, 0⟩ k n hlt (by rw [ha.len]; exact Nat.le_refl _)
      have hsz := hbw.size
      clear ha
      have HS := Lib.hid hs
      clear hs
      go_wp2_with fail
      refine (toTraceStep_any _ _ _).mono ?_
      rintro e w2 ⟨rfl, hb2⟩
      have ho2 := ho.below hb2
      have q0 := ho2.cell tsV_len (j := 0) hz rfl
      have f0 := ho2.frozen (k * 2 + 0)
      have q1 := ho2.cell tsV_len (j := 1) hz rfl
      have f1 := ho2.frozen (k * 2 + 1)
      simp only [Nat.add_zero] at q0 f0
      have HZ := Lib.hid hz
      clear hz
      go_wp2
      go_roundw
      case rel => exact ⟨k + 1, by omega, by go_num, ho2.fill tsV_len HS.out hlt, below_puts (tsV s) (k * 2) (below_trans hbw hb2) (Nat.le_refl _)⟩
      case measure => simp [intOf]; omega
    · obtain rfl : k = n := by omega
      go_wp2
      go_ret
      exact ⟨_, _, rfl, by simpa [← ha.len] using ho, hbw⟩

set_option maxHeartbeats 400000 in
theorem szTraceStepS_no (A : Option Addr) (n c : Nat) (l : List TS) (left : Int) (w : World) (ha : Rd tsV 2 w A n c l) (h0 : 0 ≤ left) (h1 : left ≤ 1048576) (h : left < n) :
    Calls Try.prog 5 #[.slice A n c, .int .i64 left] w fun e w' => e = .returned (.int .i64 (-1)) ∧ w = w' := by
  have hm := ha.le
  clear ha
  go_enter Try.func5, Try.ntmps5
  go_wp2
  go_ret
  exact ⟨rfl, rfl⟩

set_option maxHeartbeats 400000 in
theorem szTraceStepS_yes (A : Option Addr) (n c : Nat) (l : List TS) (left : Int) (w : World) (ha : Rd tsV 2 w A n c l) (h0 : 0 ≤ left) (h1 : left ≤ 1048576) (h : n ≤ left) :
    Calls Try.prog 5 #[.slice A n c, .int .i64 left] w fun e w' => e = .returned (.int .i64 (left - n)) ∧ w = w' := by
  have hm := ha.le
  clear ha
  go_enter Try.func5, Try.ntmps5
  go_wp2
  go_ret
  exact ⟨rfl, rfl⟩

def mkTraceStep (k : Int) : Nat → TS := fun (j : Nat) => (⟨(k + 2 * (j : Int)), (k + 2 * (j : Int) + 1)⟩ : TS)
/-- The list of marks that markTraceStepS leaves. -/
def marksTraceStep (k : Int) (n : Nat) : List TS := (List.range n).map (mkTraceStep k)
theorem marksTraceStep_get (k : Int) (n i : Nat) (hi : i < n) : (marksTraceStep k n)[i]? = some (mkTraceStep k i) := by simp [marksTraceStep, hi]
theorem marksTraceStep_len (k : Int) (n : Nat) : (marksTraceStep k n).length = n := by simp [marksTraceStep]

set_option maxHeartbeats 1000000 in
theorem markTraceStepS_any (A : Option Addr) (n c base e0 : Nat) (l : List TS) (k0 : Int) (w : World) (ha : Own tsV 2 w base e0 A n c l) (h0 : 1 ≤ k0) (h1 : k0 ≤ 1000000000) (hn : n ≤ 4194304) (hsz : base ≤ w.heap.size) :
    Calls Try.prog 11 #[.slice A n c, .int .i64 k0] w fun e w' => e = .returned (.int .i64 (k0 + 2 * (n : Int))) ∧ Own tsV 2 w' base e0 A n c (marksTraceStep k0 n) ∧ w.grownBy w' (blockOf A) := by
  have hm := (ha.rd tsV_len).le
  go_enter Try.func11, Try.ntmps11
  go_wp2
  go_loopw [1, 5] (fun kv i wr => ∃ k : Nat, k ≤ n ∧ i = .int .i64 k ∧ kv = .int .i64 (k0 + 2 * (k : Int)) ∧ w.grownBy wr (blockOf A) ∧ ∃ l' : List TS, Own tsV 2 wr base e0 A n c l' ∧ (∀ j, j < k → l'[j]? = some (mkTraceStep k0 j))) (fun _ i _ => n - (intOf i).toNat)
  case atStart => exact ⟨0, Nat.zero_le _, rfl, by simp, World.grownBy.refl _ _, l, ha, fun j hj => absurd hj (by omega)⟩
  case round =>
    obtain ⟨k, hk, rfl, rfl, hg, l', ho, hup⟩ := hrel
    by_cases hlt : k < n
    · obtain ⟨g, rfl⟩ := ho.form (by omega)
      have hkl : k < l'.length := by rw [ho.len]; exact hlt
      have hsr := hg.size
      clear ha
      have HU := Lib.hid (set_upto hup hkl)
      clear hup
      have q0 := ho.cell tsV_len (j := 0) (List.getElem?_eq_getElem hkl) rfl
      have f0 := ho.frozen (k * 2 + 0)
      have q1 := ho.cell tsV_len (j := 1) (List.getElem?_eq_getElem hkl) rfl
      have f1 := ho.frozen (k * 2 + 1)
      simp only [Nat.add_zero] at q0 f0
      obtain ⟨hp, hg2⟩ := ho.puts tsV_len k (mkTraceStep k0 k) hlt
      have HP := Lib.hid hp
      have HG := Lib.hid hg2
      clear hp hg2
      go_wp2
      go_roundw
      case rel => exact ⟨k + 1, by omega, by go_num, by go_num, grown_trans hg HG.out, _, HP.out, HU.out⟩
      case measure => simp [intOf]; omega
    · obtain rfl : k = n := by omega
      have e := upto_eq ho.len hup
      have HO : Own tsV 2 wr base e0 A k c (marksTraceStep k0 k) := by rw [e] at ho; exact ho
      have HH := Lib.hid HO
      clear e hup ho HO ha
      go_wp2
      go_ret
      exact ⟨rfl, HH.out, hg⟩

def inV (x : Int) : List Value := [.int .i64 x]
theorem inV_len (x : Int) : (inV x).length = 1 := rfl
theorem Rd.in {w : World} {A : Option Addr} {n c : Nat} {l : List Int} (h : Rd inV 1 w A n c l) {i : Nat} (hi : i < n) :
    ∃ b off x, A = some ⟨b, off, none⟩ ∧ l[i]? = some x ∧ w.cell? ⟨b, off + i, none⟩ = some (.int .i64 x) := by
  obtain ⟨b, off, e, hc⟩ := h.at_ (by omega)
  have hl : i < l.length := by have := h.len; omega
  exact ⟨b, off, l[i], e, List.getElem?_eq_getElem hl, by simpa using hc i _ (List.getElem?_eq_getElem hl) 0 _ rfl⟩

set_option maxHeartbeats 400000 in
theorem eqIntS_same (A B : Option Addr) (n m c d : Nat) (l : List Int) (w : World) (ha : Rd inV 1 w A n c l) (hb : Rd inV 1 w B m d l) :
    Calls Try.prog 36 #[.slice A n c, .slice B m d] w fun e w' => e = .returned (.bool true) ∧ Below w.heap.size w w' := by
  have hm := ha.le
  obtain rfl : n = m := ha.len.symm.trans hb.len
  go_enter Try.func36, Try.ntmps36
  go_wp2
  go_loopw [5] (fun i wr => ∃ k : Nat, k ≤ n ∧ i = .int .i64 k ∧ Below w.heap.size w wr) (fun i _ => n - (intOf i).toNat)
  case atStart => exact ⟨0, Nat.zero_le _, rfl, Below.refl _ _⟩
  case round =>
    obtain ⟨k, hk, rfl, hbw⟩ := hrel
    by_cases hlt : k < n
    · obtain ⟨b1, o1, s, rfl, hs, c0⟩ := (ha.below hbw).in hlt
      obtain ⟨b2, o2, s', rfl, hs', d0⟩ := (hb.below hbw).in hlt
      obtain rfl : s = s' := by rw [hs] at hs'; injection hs'
      clear hs hs' ha hb
      have k0 := cell_regrown c0
      have q0 := cell_regrown d0
      go_wp2
      refine wp_region_quiet_below (by kernel_rfl) (by kernel_rfl) ?_
      repeat (go_big_quiet_step (fail))
      refine wpQuiet_nil ?_
      intro _ hw'
      obtain ⟨⟨dq, osq⟩, hw''⟩ := hw'
      subst hw''
      go_wp2
      go_roundw
      case rel => exact ⟨k + 1, by omega, by go_num, below_grow hbw _ _⟩
      case measure => simp [intOf]; omega
    · go_wp2
      go_ret
      exact ⟨rfl, hbw⟩

theorem Try.infoin : (Try.prog.info? 3).map (fun i => (i.zero, i.size, i.bytes)) = some (some (.int .i64 0), 1, 8) := by kernel_rfl

def mkInt (k : Int) : Nat → Int := fun (j : Nat) => ((k + (j : Int)) : Int)
/-- The list of marks that markIntS leaves. -/
def marksInt (k : Int) (n : Nat) : List Int := (List.range n).map (mkInt k)
theorem marksInt_get (k : Int) (n i : Nat) (hi : i < n) : (marksInt k n)[i]? = some (mkInt k i) := by simp [marksInt, hi]
theorem marksInt_len (k : Int) (n : Nat) : (marksInt k n).length = n := by simp [marksInt]

set_option maxHeartbeats 1000000 in
theorem markIntS_any (A : Option Addr) (n c base e0 : Nat) (l : List Int) (k0 : Int) (w : World) (ha : Own inV 1 w base e0 A n c l) (h0 : 1 ≤ k0) (h1 : k0 ≤ 1000000000) (hn : n ≤ 4194304) (hsz : base ≤ w.heap.size) :
    Calls Try.prog 38 #[.slice A n c, .int .i64 k0] w fun e w' => e = .returned (.int .i64 (k0 + (n : Int))) ∧ Own inV 1 w' base e0 A n c (marksInt k0 n) ∧ w.grownBy w' (blockOf A) := by
  have hm := (ha.rd inV_len).le
  go_enter Try.func38, Try.ntmps38
  go_wp2
  go_loopw [1, 5] (fun kv i wr => ∃ k : Nat, k ≤ n ∧ i = .int .i64 k ∧ kv = .int .i64 (k0 + (k : Int)) ∧ w.grownBy wr (blockOf A) ∧ ∃ l' : List Int, Own inV 1 wr base e0 A n c l' ∧ (∀ j, j < k → l'[j]? = some (mkInt k0 j))) (fun _ i _ => n - (intOf i).toNat)
  case atStart => exact ⟨0, Nat.zero_le _, rfl, by simp, World.grownBy.refl _ _, l, ha, fun j hj => absurd hj (by omega)⟩
  case round =>
    obtain ⟨k, hk, rfl, rfl, hg, l', ho, hup⟩ := hrel
    by_cases hlt : k < n
    · obtain ⟨g, rfl⟩ := ho.form (by omega)
      have hkl : k < l'.length := by rw [ho.len]; exact hlt
      have hsr := hg.size
      clear ha
      have HU := Lib.hid (set_upto hup hkl)
      clear hup
      have q0 := ho.cell inV_len (j := 0) (List.getElem?_eq_getElem hkl) rfl
      have f0 := ho.frozen (k * 1 + 0)
      simp only [Nat.add_zero, Nat.mul_one] at q0 f0
      obtain ⟨hp, hg2⟩ := ho.puts inV_len k (mkInt k0 k) hlt
      simp only [putCells, inV, Nat.mul_one] at hp hg2
      have HP := Lib.hid hp
      have HG := Lib.hid hg2
      clear hp hg2
      go_wp2
      go_roundw
      case rel => exact ⟨k + 1, by omega, by go_num, by go_num, grown_trans hg HG.out, _, HP.out, HU.out⟩
      case measure => simp [intOf]; omega
    · obtain rfl : k = n := by omega
      have e := upto_eq ho.len hup
      have HO : Own inV 1 wr base e0 A k c (marksInt k0 k) := by rw [e] at ho; exact ho
      have HH := Lib.hid HO
      clear e hup ho HO ha
      go_wp2
      go_ret
      exact ⟨rfl, HH.out, hg⟩

set_option maxHeartbeats 400000 in
theorem heldIntS_any (A : Option Addr) (n c : Nat) (k0 : Int) (w : World) (ha : Rd inV 1 w A n c (marksInt k0 n)) (h0 : 1 ≤ k0) (h1 : k0 ≤ 1000000000) (hn : n ≤ 4194304) :
    Calls Try.prog 39 #[.slice A n c, .int .i64 k0] w fun e w' => e = .returned (.int .i64 (k0 + (n : Int))) ∧ Below w.heap.size w w' := by
  have hm := ha.le
  go_enter Try.func39, Try.ntmps39
  go_wp2
  go_loopw [1, 5] (fun kv i wr => ∃ k : Nat, k ≤ n ∧ i = .int .i64 k ∧ kv = .int .i64 (k0 + (k : Int)) ∧ Below w.heap.size w wr) (fun _ i _ => n - (intOf i).toNat)
  case atStart => exact ⟨0, Nat.zero_le _, rfl, by simp, Below.refl _ _⟩
  case round =>
    obtain ⟨k, hk, rfl, rfl, hbw⟩ := hrel
    by_cases hlt : k < n
    · obtain ⟨b1, o1, s, rfl, hs, c0⟩ := (ha.below hbw).in hlt
      obtain rfl : mkInt k0 k = s := by rw [marksInt_get k0 n k hlt] at hs; injection hs
      clear hs ha
      simp only [mkInt] at c0
      go_wp2
      go_roundw
      case rel => exact ⟨k + 1, by omega, by go_num, by go_num, hbw⟩
      case measure => simp [intOf]; omega
    · obtain rfl : k = n := by omega
      clear ha
      go_wp2
      go_ret
      exact ⟨rfl, hbw⟩

end Go.Proofs.Ytmmogpbbehgkiaa
