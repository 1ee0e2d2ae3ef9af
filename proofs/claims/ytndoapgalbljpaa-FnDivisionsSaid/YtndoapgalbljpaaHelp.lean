/-
  YtndoapgalbljpaaHelp: the law file's own helpers (sz, to, eq, mark, held) at the element types String Int Bool: each by a contract. Printed by a program (wip/gen/help.py).
-/
import Derived.Test.YtndoapgalbljpaaCommon
import Derived.Test.YtndoapgalbljpaaRows
import Derived.WalkSpells
import Derived.WalkLawsBesides
import Derived.Deep.DeepMust
namespace Go.Proofs.Ytndoapgalbljpaa
open Go Go.RowKit Go.Sort
set_option linter.unusedVariables false
set_option maxRecDepth 100000

theorem bcell {W w1 : World} (hb : Below W.heap.size W w1) : (∀ b o, b < W.heap.size → w1.cell? ⟨b, o, none⟩ = W.cell? ⟨b, o, none⟩) ∧ (∀ b o, b < W.heap.size → w1.frozen? ⟨b, o, none⟩ = W.frozen? ⟨b, o, none⟩) :=
  ⟨fun b o h => hb.cell (p := ⟨b, o, none⟩) h, fun b o h => hb.frozen (p := ⟨b, o, none⟩) h⟩

/-- The mark of a bool. -/
def markB (k : Int) : Bool := (k % 3 == 0)

/-- The decimal digits of m (fuel f). -/
def digsF : Nat → Nat → List UInt8
  | 0, _ => []
  | f + 1, m => if m = 0 then [] else digsF f (m / 10) ++ [UInt8.ofNat (48 + m % 10)]
def mtext (k : Int) : ByteArray := ⟨#[109]⟩ ++ ⟨(digsF 20 k.toNat).toArray⟩
theorem digsF_zero (f : Nat) : digsF f 0 = [] := by cases f <;> rfl

set_option maxRecDepth 100000 in
set_option maxHeartbeats 1000000 in
theorem markText_any (k : Int) (w : World) (h0 : 0 < k) (h1 : k ≤ 10000000000) :
    Calls Try.prog 71 #[.int .i64 k] w fun e w' => e = .returned (.string (mtext k)) ∧ Below w.heap.size w w' := by
  obtain ⟨m0, rfl⟩ := Int.eq_ofNat_of_zero_le (Int.le_of_lt h0)
  go_enter Try.func71, Try.ntmps71
  go_wp2
  go_loopw [0, 3] (fun kv v wr => ∃ (f m : Nat) (p : ByteArray), kv = .int .i64 (m : Int) ∧ v = .string p ∧ m ≤ 10000000000 ∧ f + p.size = 20 ∧ m < 10 ^ f ∧ Below w.heap.size w wr ∧ digsF 20 m0 = digsF f m ++ p.data.toList) (fun kv _ _ => (intOf kv).toNat)
  case atStart => exact ⟨20, m0, ⟨#[]⟩, rfl, rfl, by omega, rfl, by omega, Below.refl _ _, by simp⟩
  case round =>
    obtain ⟨f, m, p, rfl, rfl, hm, hf, hlt, hbw, hd⟩ := hrel
    have HD := Lib.hid hd
    have HLT := Lib.hid hlt
    have HF := Lib.hid hf
    have hps : p.size ≤ 20 := by omega
    clear hd hlt hf
    by_cases h : 0 < m
    · obtain ⟨f', rfl⟩ : ∃ f', f = f' + 1 := by
        cases f with
        | zero => have := HLT.out; simp at this; omega
        | succ f' => exact ⟨f', rfl⟩
      have hcv := run_convert_bytes_arg (P := Try.prog) (wr.alloc (.cells #[.int .u8 (48 + (m : Int) % 10)] 5)) 31 5 Try.underlying31 Try.underlying5 wr.heap.size 0 1 1 [48 + (m : Int) % 10] rfl
        (fun i hi => by obtain rfl : i = 0 := by omega
                        exact cell_of_row _ _ _ _ _ _ (heap_new rfl)) 9 Try.underlying9
      obtain ⟨c, hc1, hc2, hc3⟩ : ∃ c : ByteArray, strOfNums [48 + (m : Int) % 10] = c ∧ c.size ≤ 1 ∧ c.data.toList = [UInt8.ofNat (48 + m % 10)] :=
        ⟨_, rfl, by rw [strOfNums_size]; simp, by rw [strOfNums_data]; simp only [List.map_cons, List.map_nil]; rw [show (48 + (m : Int) % 10).toNat = 48 + m % 10 from by omega]⟩
      rw [hc1] at hcv
      have HC := Lib.hid hc3
      have hsz : 1 ≤ c.size := by have := congrArg List.length hc3; simp at this; have h2 : c.size = c.data.size := rfl; omega
      have HD2 : Hid (digsF 20 m0 = digsF f' (m / 10) ++ (c ++ p).data.toList) := by
        show _ = _
        rw [HD.out, digsF, if_neg (by omega), ByteArray.data_append, Array.toList_append, HC.out, List.append_assoc]
      have HL2 : Hid (m / 10 < 10 ^ f') := by
        show _ < _
        have := HLT.out
        rw [Nat.pow_succ] at this
        omega
      clear hc1 hc3
      go_wp2
      go_roundw
      case rel => exact ⟨f', m / 10, c ++ p, by go_num, rfl, by omega, by have := HF.out; rw [ByteArray.size_append]; omega, HL2.out, below_trans hbw (below_alloc _), HD2.out⟩
      case measure => simp [intOf]; omega
    · obtain rfl : m = 0 := by omega
      have E : Hid ((⟨#[109]⟩ : ByteArray) ++ p = mtext (m0 : Int)) := by
        show _ = _
        unfold mtext
        rw [Int.toNat_natCast, HD.out, digsF_zero]
        rfl
      go_wp2
      go_ret
      exact ⟨ret_str E.out, hbw⟩

def stV (x : ByteArray) : List Value := [.string x]
theorem stV_len (x : ByteArray) : (stV x).length = 1 := rfl
theorem Rd.st {w : World} {A : Option Addr} {n c : Nat} {l : List ByteArray} (h : Rd stV 1 w A n c l) {i : Nat} (hi : i < n) :
    ∃ b off x, A = some ⟨b, off, none⟩ ∧ l[i]? = some x ∧ w.cell? ⟨b, off + i, none⟩ = some (.string x) := by
  obtain ⟨b, off, e, hc⟩ := h.at_ (by omega)
  have hl : i < l.length := by have := h.len; omega
  exact ⟨b, off, l[i], e, List.getElem?_eq_getElem hl, by simpa using hc i _ (List.getElem?_eq_getElem hl) 0 _ rfl⟩

set_option maxHeartbeats 400000 in
theorem eqStringS_same (A B : Option Addr) (n m c d : Nat) (l : List ByteArray) (w : World) (ha : Rd stV 1 w A n c l) (hb : Rd stV 1 w B m d l) :
    Calls Try.prog 69 #[.slice A n c, .slice B m d] w fun e w' => e = .returned (.bool true) ∧ Below w.heap.size w w' := by
  have hm := ha.le
  obtain rfl : n = m := ha.len.symm.trans hb.len
  go_enter Try.func69, Try.ntmps69
  go_wp2
  go_loopw [5] (fun i wr => ∃ k : Nat, k ≤ n ∧ i = .int .i64 k ∧ Below w.heap.size w wr) (fun i _ => n - (intOf i).toNat)
  case atStart => exact ⟨0, Nat.zero_le _, rfl, Below.refl _ _⟩
  case round =>
    obtain ⟨k, hk, rfl, hbw⟩ := hrel
    by_cases hlt : k < n
    · obtain ⟨b1, o1, s, rfl, hs, c0⟩ := (ha.below hbw).st hlt
      obtain ⟨b2, o2, s', rfl, hs', d0⟩ := (hb.below hbw).st hlt
      obtain rfl : s = s' := by rw [hs] at hs'; injection hs'
      clear hs hs' ha hb
      have k0 := cell_regrown c0
      have q0 := cell_regrown d0
      go_wp2
      refine wp_region_quiet_below (by kernel_rfl) (by kernel_rfl) ?_
      repeat (go_big_quiet_step (fail))
      refine wpQuiet_nil ?_
      intro _ hw'
      obtain ⟨⟨dq, osq⟩, hw''⟩ := hw'
      subst hw''
      go_wp2
      go_roundw
      case rel => exact ⟨k + 1, by omega, by go_num, below_grow hbw _ _⟩
      case measure => simp [intOf]; omega
    · go_wp2
      go_ret
      exact ⟨rfl, hbw⟩

theorem Try.infost : (Try.prog.info? 9).map (fun i => (i.zero, i.size, i.bytes)) = some (some (.string ByteArray.empty), 1, 16) := by kernel_rfl

set_option maxHeartbeats 400000 in
theorem toStringS_any (A : Option Addr) (n c : Nat) (l : List ByteArray) (w : World) (ha : Rd stV 1 w A n c l) (hn : n ≤ 1048576) :
    Calls Try.prog 62 #[.slice A n c] w fun e w' => ∃ B d, e = .returned (.slice B n d) ∧ Own stV 1 w' w.heap.size 9 B n d l ∧ Below w.heap.size w w' := by
  obtain ⟨i0, hi, hz0, hz1, hz2⟩ := info_parts Try.infost
  go_enter Try.func62, Try.ntmps62
  go_wp2_with (at_make; refine wpList_make_full _ rfl _ _ _ rfl w.heap.size 9 i0 (.string ByteArray.empty) 1 Try.underlying45 hi hz0 hz1 .i64 .i64 _ _ n rfl rfl rfl rfl (by rw [hz2]; omega) (by simp only [maxLen]; omega) (Nat.le_refl _) ?_; intro w1 hown hg1)
  have ho : Own stV 1 w1 w.heap.size 9 (some ⟨w.heap.size, 0, none⟩) n n (List.replicate n ByteArray.empty) := ⟨by simp, by rw [← made_flat (z := (Value.cells (.string ByteArray.empty))) stV_len (by omega) ByteArray.empty rfl]; exact hown⟩
  have hb1 : Below w.heap.size w w1 := below_of_grown hg1 (Nat.le_refl _) (fun k hk => by cases hk)
  clear hown hg1
  go_loopw [4] (fun i wr => ∃ k : Nat, k ≤ n ∧ i = .int .i64 k ∧ Own stV 1 wr w.heap.size 9 (some ⟨w.heap.size, 0, none⟩) n n (l.take k ++ List.replicate (n - k) ByteArray.empty) ∧ Below w.heap.size w wr) (fun i _ => n - (intOf i).toNat)
  case atStart => exact ⟨0, Nat.zero_le _, rfl, by simpa using ho, hb1⟩
  case round =>
    clear ho hb1
    obtain ⟨k, hk, rfl, ho, hbw⟩ := hrel
    by_cases hlt : k < n
    · obtain ⟨b1, o1, s, rfl, hs, c0⟩ := (ha.below hbw).st hlt
      have hz := take_rep_get l ByteArray.empty k n hlt (by rw [ha.len]; exact Nat.le_refl _)
      have hsz := hbw.size
      clear ha
      have HS := Lib.hid hs
      clear hs
      have hb2 := Below.refl wr.heap.size wr
      have ho2 := ho
      have q0 := ho2.cell stV_len (j := 0) hz rfl
      have f0 := ho2.frozen (k * 1 + 0)
      simp only [Nat.add_zero, Nat.mul_one] at q0 f0
      have HZ := Lib.hid hz
      clear hz
      go_wp2
      go_roundw
      case rel => exact ⟨k + 1, by omega, by go_num, by simpa [putCells, stV] using ho2.fill stV_len HS.out hlt, by simpa [putCells, stV] using below_puts (stV s) (k * 1) (below_trans hbw hb2) (Nat.le_refl _)⟩
      case measure => simp [intOf]; omega
    · obtain rfl : k = n := by omega
      go_wp2
      go_ret
      exact ⟨_, _, rfl, by simpa [← ha.len] using ho, hbw⟩

def szPStringS (l : List ByteArray) (left r : Int) : Prop := r = -1 ∨ (0 ≤ r ∧ r ≤ left ∧ r + (l.length : Int) ≤ left ∧ ∀ x ∈ l, (x.size : Int) ≤ left)

set_option maxRecDepth 100000 in
set_option maxHeartbeats 1000000 in
theorem szStringS_any (A : Option Addr) (n c : Nat) (l : List ByteArray) (left : Int) (w : World) (ha : Rd stV 1 w A n c l) (h0 : 0 ≤ left) (h1 : left ≤ 1048576) (hg : ∀ x ∈ l, x.size ≤ maxLen) :
    Calls Try.prog 58 #[.slice A n c, .int .i64 left] w fun e w' => (∃ r : Int, e = .returned (.int .i64 r) ∧ szPStringS l left r) ∧ Below w.heap.size w w' := by
  have hm := ha.le
  have HL := Lib.hid ha.len
  by_cases hs : left - (n : Int) < 0
  · clear ha
    go_enter Try.func58, Try.ntmps58
    go_wp2
    go_ret
    exact ⟨⟨_, rfl, .inl rfl⟩, Below.refl _ _⟩
  · go_enter Try.func58, Try.ntmps58
    go_wp2
    go_loopw [1, 5] (fun lv i wr => ∃ (k : Nat) (L : Int), k ≤ n ∧ i = .int .i64 k ∧ lv = .int .i64 L ∧ 0 ≤ L ∧ L + (n : Int) ≤ left ∧ Below w.heap.size w wr ∧ ∀ j x, j < k → l[j]? = some x → (x.size : Int) ≤ left) (fun _ i _ => n - (intOf i).toNat)
    case atStart => exact ⟨0, left - n, Nat.zero_le _, rfl, rfl, by omega, by omega, Below.refl _ _, fun j x hj => absurd hj (by omega)⟩
    case round =>
      obtain ⟨k, L, hk, rfl, rfl, hL0, hL1, hbw, hup⟩ := hrel
      have HU := Lib.hid hup
      clear hup
      by_cases hlt : k < n
      · obtain ⟨b1, o1, x, rfl, hx, c0⟩ := (ha.below hbw).st hlt
        have hgx := hg x (List.mem_of_getElem? hx)
        have HX := Lib.hid hx
        clear hx ha
        unfold maxLen at hgx
        by_cases hs2 : L - (x.size : Int) < 0
        · go_wp2
          go_ret
          exact ⟨⟨_, rfl, .inl rfl⟩, hbw⟩
        · have HN : Hid (∀ j y, j < k + 1 → l[j]? = some y → (y.size : Int) ≤ left) := fun j y hj hy => by
            by_cases e : j = k
            · subst e; rw [HX.out] at hy; injection hy with hy; subst hy; omega
            · exact HU.out j y (by omega) hy
          go_wp2
          go_roundw
          case rel => exact ⟨k + 1, _, by omega, by go_num, rfl, by omega, by omega, hbw, HN.out⟩
          case measure => simp [intOf]; omega
      · obtain rfl : k = n := by omega
        have HN : Hid (szPStringS l left L) := .inr ⟨hL0, by omega, by rw [HL.out]; omega, fun x hx => by
          obtain ⟨j, hj⟩ := List.mem_iff_getElem?.1 hx
          exact HU.out j x (by rw [← HL.out]; exact (List.getElem?_eq_some_iff.1 hj).1) hj⟩
        clear ha hg
        go_wp2
        go_ret
        exact ⟨⟨_, rfl, HN.out⟩, hbw⟩

def mkString (k : Int) : Nat → ByteArray := fun (j : Nat) => ((mtext (k + (j : Int))) : ByteArray)
/-- The list of marks that markStringS leaves. -/
def marksString (k : Int) (n : Nat) : List ByteArray := (List.range n).map (mkString k)
theorem marksString_get (k : Int) (n i : Nat) (hi : i < n) : (marksString k n)[i]? = some (mkString k i) := by simp [marksString, hi]
theorem marksString_len (k : Int) (n : Nat) : (marksString k n).length = n := by simp [marksString]

set_option maxHeartbeats 1000000 in
theorem markStringS_any (A : Option Addr) (n c base e0 : Nat) (l : List ByteArray) (k0 : Int) (w : World) (ha : Own stV 1 w base e0 A n c l) (h0 : 1 ≤ k0) (h1 : k0 ≤ 1000000000) (hn : n ≤ 4194304) (hsz : base ≤ w.heap.size) :
    Calls Try.prog 41 #[.slice A n c, .int .i64 k0] w fun e w' => e = .returned (.int .i64 (k0 + (n : Int))) ∧ Own stV 1 w' base e0 A n c (marksString k0 n) ∧ w.grownBy w' (blockOf A) := by
  have hm := (ha.rd stV_len).le
  go_enter Try.func41, Try.ntmps41
  go_wp2
  go_loopw [1, 5] (fun kv i wr => ∃ k : Nat, k ≤ n ∧ i = .int .i64 k ∧ kv = .int .i64 (k0 + (k : Int)) ∧ w.grownBy wr (blockOf A) ∧ ∃ l' : List ByteArray, Own stV 1 wr base e0 A n c l' ∧ (∀ j, j < k → l'[j]? = some (mkString k0 j))) (fun _ i _ => n - (intOf i).toNat)
  case atStart => exact ⟨0, Nat.zero_le _, rfl, by simp, World.grownBy.refl _ _, l, ha, fun j hj => absurd hj (by omega)⟩
  case round =>
    obtain ⟨k, hk, rfl, rfl, hg, l', ho, hup⟩ := hrel
    by_cases hlt : k < n
    · obtain ⟨g, rfl⟩ := ho.form (by omega)
      have hkl : k < l'.length := by rw [ho.len]; exact hlt
      have hsr := hg.size
      clear ha
      have HU := Lib.hid (set_upto hup hkl)
      clear hup
      have hx := List.getElem?_eq_getElem hkl
      go_wp2_with fail
      refine (markText_any _ _ (by omega) (by omega)).mono ?_
      rintro e w2 ⟨rfl, b2⟩
      have o0 := ho.below b2
      have G0 := grown_below hg b2
      have q0 := o0.cell stV_len (j := 0) hx rfl
      have f0 := o0.frozen (k * 1 + 0)
      simp only [Nat.add_zero, Nat.mul_one] at q0 f0
      obtain ⟨s0, e0⟩ := o0.store stV_len (j := 0) hx (by omega) ((mtext (k0 + (k : Int)))) (.string (mtext (k0 + (k : Int)))) rfl
      have hx0 : (l'.set k ((mtext (k0 + (k : Int)))))[k]? = some ((mtext (k0 + (k : Int)))) := by simp [hkl]
      have H0 := grown_trans G0 e0
      simp only [Nat.add_zero, Nat.mul_one] at s0 H0
      have HO := Lib.hid s0
      have HG := Lib.hid H0
      clear hx hx0 s0 e0 H0
      go_wp2
      go_roundw
      case rel => exact ⟨k + 1, by omega, by go_num, by go_num, HG.out, _, by simpa [List.set_set, mkString] using HO.out, HU.out⟩
      case measure => simp [intOf]; omega
    · obtain rfl : k = n := by omega
      have e := upto_eq ho.len hup
      have HO : Own stV 1 wr base e0 A k c (marksString k0 k) := by rw [e] at ho; exact ho
      have HH := Lib.hid HO
      clear e hup ho HO ha
      go_wp2
      go_ret
      exact ⟨rfl, HH.out, hg⟩

set_option maxHeartbeats 400000 in
theorem heldStringS_any (A : Option Addr) (n c : Nat) (k0 : Int) (w : World) (ha : Rd stV 1 w A n c (marksString k0 n)) (h0 : 1 ≤ k0) (h1 : k0 ≤ 1000000000) (hn : n ≤ 4194304) :
    Calls Try.prog 43 #[.slice A n c, .int .i64 k0] w fun e w' => e = .returned (.int .i64 (k0 + (n : Int))) ∧ Below w.heap.size w w' := by
  have hm := ha.le
  go_enter Try.func43, Try.ntmps43
  go_wp2
  go_loopw [1, 5] (fun kv i wr => ∃ k : Nat, k ≤ n ∧ i = .int .i64 k ∧ kv = .int .i64 (k0 + (k : Int)) ∧ Below w.heap.size w wr) (fun _ i _ => n - (intOf i).toNat)
  case atStart => exact ⟨0, Nat.zero_le _, rfl, by simp, Below.refl _ _⟩
  case round =>
    obtain ⟨k, hk, rfl, rfl, hbw⟩ := hrel
    by_cases hlt : k < n
    · obtain ⟨b1, o1, s, rfl, hs, c0⟩ := (ha.below hbw).st hlt
      obtain rfl : mkString k0 k = s := by rw [marksString_get k0 n k hlt] at hs; injection hs
      clear hs ha
      simp only [mkString] at c0
      have r0_0 := cell_regrown c0
      go_wp2
      refine wp_region_quiet_below (by kernel_rfl) (by kernel_rfl) ?_
      repeat (go_big_quiet_step ((go_at_call 71; exact Calls.regrown_of (markText_any _ _ (by omega) (by omega)))))
      refine wpQuiet_nil ?_
      intro _ hw'
      obtain ⟨⟨dq0, osq0⟩, hw''⟩ := hw'
      subst hw''
      replace c0 := r0_0 dq0 osq0
      clear r0_0
      have B0 := below_grow hbw dq0 osq0
      generalize hgw0 : grow (redrawn _ dq0) osq0 = v0 at *
      clear hgw0
      go_wp2
      go_roundw
      case rel => exact ⟨k + 1, by omega, by go_num, by go_num, B0⟩
      case measure => simp [intOf]; omega
    · obtain rfl : k = n := by omega
      clear ha
      go_wp2
      go_ret
      exact ⟨rfl, hbw⟩

def inV (x : Int) : List Value := [.int .i64 x]
theorem inV_len (x : Int) : (inV x).length = 1 := rfl
theorem Rd.in {w : World} {A : Option Addr} {n c : Nat} {l : List Int} (h : Rd inV 1 w A n c l) {i : Nat} (hi : i < n) :
    ∃ b off x, A = some ⟨b, off, none⟩ ∧ l[i]? = some x ∧ w.cell? ⟨b, off + i, none⟩ = some (.int .i64 x) := by
  obtain ⟨b, off, e, hc⟩ := h.at_ (by omega)
  have hl : i < l.length := by have := h.len; omega
  exact ⟨b, off, l[i], e, List.getElem?_eq_getElem hl, by simpa using hc i _ (List.getElem?_eq_getElem hl) 0 _ rfl⟩

set_option maxHeartbeats 400000 in
theorem eqIntS_same (A B : Option Addr) (n m c d : Nat) (l : List Int) (w : World) (ha : Rd inV 1 w A n c l) (hb : Rd inV 1 w B m d l) :
    Calls Try.prog 70 #[.slice A n c, .slice B m d] w fun e w' => e = .returned (.bool true) ∧ Below w.heap.size w w' := by
  have hm := ha.le
  obtain rfl : n = m := ha.len.symm.trans hb.len
  go_enter Try.func70, Try.ntmps70
  go_wp2
  go_loopw [5] (fun i wr => ∃ k : Nat, k ≤ n ∧ i = .int .i64 k ∧ Below w.heap.size w wr) (fun i _ => n - (intOf i).toNat)
  case atStart => exact ⟨0, Nat.zero_le _, rfl, Below.refl _ _⟩
  case round =>
    obtain ⟨k, hk, rfl, hbw⟩ := hrel
    by_cases hlt : k < n
    · obtain ⟨b1, o1, s, rfl, hs, c0⟩ := (ha.below hbw).in hlt
      obtain ⟨b2, o2, s', rfl, hs', d0⟩ := (hb.below hbw).in hlt
      obtain rfl : s = s' := by rw [hs] at hs'; injection hs'
      clear hs hs' ha hb
      have k0 := cell_regrown c0
      have q0 := cell_regrown d0
      go_wp2
      refine wp_region_quiet_below (by kernel_rfl) (by kernel_rfl) ?_
      repeat (go_big_quiet_step (fail))
      refine wpQuiet_nil ?_
      intro _ hw'
      obtain ⟨⟨dq, osq⟩, hw''⟩ := hw'
      subst hw''
      go_wp2
      go_roundw
      case rel => exact ⟨k + 1, by omega, by go_num, below_grow hbw _ _⟩
      case measure => simp [intOf]; omega
    · go_wp2
      go_ret
      exact ⟨rfl, hbw⟩

theorem Try.infoin : (Try.prog.info? 3).map (fun i => (i.zero, i.size, i.bytes)) = some (some (.int .i64 0), 1, 8) := by kernel_rfl

set_option maxHeartbeats 400000 in
theorem toIntS_any (A : Option Addr) (n c : Nat) (l : List Int) (w : World) (ha : Rd inV 1 w A n c l) (hn : n ≤ 1048576) :
    Calls Try.prog 63 #[.slice A n c] w fun e w' => ∃ B d, e = .returned (.slice B n d) ∧ Own inV 1 w' w.heap.size 3 B n d l ∧ Below w.heap.size w w' := by
  obtain ⟨i0, hi, hz0, hz1, hz2⟩ := info_parts Try.infoin
  go_enter Try.func63, Try.ntmps63
  go_wp2_with (at_make; refine wpList_make_full _ rfl _ _ _ rfl w.heap.size 3 i0 (.int .i64 0) 1 Try.underlying38 hi hz0 hz1 .i64 .i64 _ _ n rfl rfl rfl rfl (by rw [hz2]; omega) (by simp only [maxLen]; omega) (Nat.le_refl _) ?_; intro w1 hown hg1)
  have ho : Own inV 1 w1 w.heap.size 3 (some ⟨w.heap.size, 0, none⟩) n n (List.replicate n 0) := ⟨by simp, by rw [← made_flat (z := (Value.cells (.int .i64 0))) inV_len (by omega) 0 rfl]; exact hown⟩
  have hb1 : Below w.heap.size w w1 := below_of_grown hg1 (Nat.le_refl _) (fun k hk => by cases hk)
  clear hown hg1
  go_loopw [4] (fun i wr => ∃ k : Nat, k ≤ n ∧ i = .int .i64 k ∧ Own inV 1 wr w.heap.size 3 (some ⟨w.heap.size, 0, none⟩) n n (l.take k ++ List.replicate (n - k) 0) ∧ Below w.heap.size w wr) (fun i _ => n - (intOf i).toNat)
  case atStart => exact ⟨0, Nat.zero_le _, rfl, by simpa using ho, hb1⟩
  case round =>
    clear ho hb1
    obtain ⟨k, hk, rfl, ho, hbw⟩ := hrel
    by_cases hlt : k < n
    · obtain ⟨b1, o1, s, rfl, hs, c0⟩ := (ha.below hbw).in hlt
      have hz := take_rep_get l 0 k n hlt (by rw [ha.len]; exact Nat.le_refl _)
      have hsz := hbw.size
      clear ha
      have HS := Lib.hid hs
      clear hs
      have hb2 := Below.refl wr.heap.size wr
      have ho2 := ho
      have q0 := ho2.cell inV_len (j := 0) hz rfl
      have f0 := ho2.frozen (k * 1 + 0)
      simp only [Nat.add_zero, Nat.mul_one] at q0 f0
      have HZ := Lib.hid hz
      clear hz
      go_wp2
      go_roundw
      case rel => exact ⟨k + 1, by omega, by go_num, by simpa [putCells, inV] using ho2.fill inV_len HS.out hlt, by simpa [putCells, inV] using below_puts (inV s) (k * 1) (below_trans hbw hb2) (Nat.le_refl _)⟩
      case measure => simp [intOf]; omega
    · obtain rfl : k = n := by omega
      go_wp2
      go_ret
      exact ⟨_, _, rfl, by simpa [← ha.len] using ho, hbw⟩

set_option maxHeartbeats 400000 in
theorem szIntS_no (A : Option Addr) (n c : Nat) (l : List Int) (left : Int) (w : World) (ha : Rd inV 1 w A n c l) (h0 : 0 ≤ left) (h1 : left ≤ 1048576) (h : left < n) :
    Calls Try.prog 59 #[.slice A n c, .int .i64 left] w fun e w' => e = .returned (.int .i64 (-1)) ∧ w = w' := by
  have hm := ha.le
  clear ha
  go_enter Try.func59, Try.ntmps59
  go_wp2
  go_ret
  exact ⟨rfl, rfl⟩

set_option maxHeartbeats 400000 in
theorem szIntS_yes (A : Option Addr) (n c : Nat) (l : List Int) (left : Int) (w : World) (ha : Rd inV 1 w A n c l) (h0 : 0 ≤ left) (h1 : left ≤ 1048576) (h : n ≤ left) :
    Calls Try.prog 59 #[.slice A n c, .int .i64 left] w fun e w' => e = .returned (.int .i64 (left - n)) ∧ w = w' := by
  have hm := ha.le
  clear ha
  go_enter Try.func59, Try.ntmps59
  go_wp2
  go_ret
  exact ⟨rfl, rfl⟩

def mkInt (k : Int) : Nat → Int := fun (j : Nat) => ((k + (j : Int)) : Int)
/-- The list of marks that markIntS leaves. -/
def marksInt (k : Int) (n : Nat) : List Int := (List.range n).map (mkInt k)
theorem marksInt_get (k : Int) (n i : Nat) (hi : i < n) : (marksInt k n)[i]? = some (mkInt k i) := by simp [marksInt, hi]
theorem marksInt_len (k : Int) (n : Nat) : (marksInt k n).length = n := by simp [marksInt]

set_option maxHeartbeats 1000000 in
theorem markIntS_any (A : Option Addr) (n c base e0 : Nat) (l : List Int) (k0 : Int) (w : World) (ha : Own inV 1 w base e0 A n c l) (h0 : 1 ≤ k0) (h1 : k0 ≤ 1000000000) (hn : n ≤ 4194304) (hsz : base ≤ w.heap.size) :
    Calls Try.prog 42 #[.slice A n c, .int .i64 k0] w fun e w' => e = .returned (.int .i64 (k0 + (n : Int))) ∧ Own inV 1 w' base e0 A n c (marksInt k0 n) ∧ w.grownBy w' (blockOf A) := by
  have hm := (ha.rd inV_len).le
  go_enter Try.func42, Try.ntmps42
  go_wp2
  go_loopw [1, 5] (fun kv i wr => ∃ k : Nat, k ≤ n ∧ i = .int .i64 k ∧ kv = .int .i64 (k0 + (k : Int)) ∧ w.grownBy wr (blockOf A) ∧ ∃ l' : List Int, Own inV 1 wr base e0 A n c l' ∧ (∀ j, j < k → l'[j]? = some (mkInt k0 j))) (fun _ i _ => n - (intOf i).toNat)
  case atStart => exact ⟨0, Nat.zero_le _, rfl, by simp, World.grownBy.refl _ _, l, ha, fun j hj => absurd hj (by omega)⟩
  case round =>
    obtain ⟨k, hk, rfl, rfl, hg, l', ho, hup⟩ := hrel
    by_cases hlt : k < n
    · obtain ⟨g, rfl⟩ := ho.form (by omega)
      have hkl : k < l'.length := by rw [ho.len]; exact hlt
      have hsr := hg.size
      clear ha
      have HU := Lib.hid (set_upto hup hkl)
      clear hup
      have q0 := ho.cell inV_len (j := 0) (List.getElem?_eq_getElem hkl) rfl
      have f0 := ho.frozen (k * 1 + 0)
      simp only [Nat.add_zero, Nat.mul_one] at q0 f0
      obtain ⟨hp, hg2⟩ := ho.puts inV_len k (mkInt k0 k) hlt
      simp only [putCells, inV, Nat.mul_one] at hp hg2
      have HP := Lib.hid hp
      have HG := Lib.hid hg2
      clear hp hg2
      go_wp2
      go_roundw
      case rel => exact ⟨k + 1, by omega, by go_num, by go_num, grown_trans hg HG.out, _, HP.out, HU.out⟩
      case measure => simp [intOf]; omega
    · obtain rfl : k = n := by omega
      have e := upto_eq ho.len hup
      have HO : Own inV 1 wr base e0 A k c (marksInt k0 k) := by rw [e] at ho; exact ho
      have HH := Lib.hid HO
      clear e hup ho HO ha
      go_wp2
      go_ret
      exact ⟨rfl, HH.out, hg⟩

set_option maxHeartbeats 400000 in
theorem heldIntS_any (A : Option Addr) (n c : Nat) (k0 : Int) (w : World) (ha : Rd inV 1 w A n c (marksInt k0 n)) (h0 : 1 ≤ k0) (h1 : k0 ≤ 1000000000) (hn : n ≤ 4194304) :
    Calls Try.prog 44 #[.slice A n c, .int .i64 k0] w fun e w' => e = .returned (.int .i64 (k0 + (n : Int))) ∧ Below w.heap.size w w' := by
  have hm := ha.le
  go_enter Try.func44, Try.ntmps44
  go_wp2
  go_loopw [1, 5] (fun kv i wr => ∃ k : Nat, k ≤ n ∧ i = .int .i64 k ∧ kv = .int .i64 (k0 + (k : Int)) ∧ Below w.heap.size w wr) (fun _ i _ => n - (intOf i).toNat)
  case atStart => exact ⟨0, Nat.zero_le _, rfl, by simp, Below.refl _ _⟩
  case round =>
    obtain ⟨k, hk, rfl, rfl, hbw⟩ := hrel
    by_cases hlt : k < n
    · obtain ⟨b1, o1, s, rfl, hs, c0⟩ := (ha.below hbw).in hlt
      obtain rfl : mkInt k0 k = s := by rw [marksInt_get k0 n k hlt] at hs; injection hs
      clear hs ha
      simp only [mkInt] at c0
      go_wp2
      go_roundw
      case rel => exact ⟨k + 1, by omega, by go_num, by go_num, hbw⟩
      case measure => simp [intOf]; omega
    · obtain rfl : k = n := by omega
      clear ha
      go_wp2
      go_ret
      exact ⟨rfl, hbw⟩

def boV (x : Bool) : List Value := [.bool x]
theorem boV_len (x : Bool) : (boV x).length = 1 := rfl
theorem Rd.bo {w : World} {A : Option Addr} {n c : Nat} {l : List Bool} (h : Rd boV 1 w A n c l) {i : Nat} (hi : i < n) :
    ∃ b off x, A = some ⟨b, off, none⟩ ∧ l[i]? = some x ∧ w.cell? ⟨b, off + i, none⟩ = some (.bool x) := by
  obtain ⟨b, off, e, hc⟩ := h.at_ (by omega)
  have hl : i < l.length := by have := h.len; omega
  exact ⟨b, off, l[i], e, List.getElem?_eq_getElem hl, by simpa using hc i _ (List.getElem?_eq_getElem hl) 0 _ rfl⟩

theorem Try.infobo : (Try.prog.info? 4).map (fun i => (i.zero, i.size, i.bytes)) = some (some (.bool false), 1, 1) := by kernel_rfl

end Go.Proofs.Ytndoapgalbljpaa
