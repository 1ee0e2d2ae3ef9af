/-
  YtcockjjilcapaaaHelp: the law file's own helpers (sz, to, eq, mark, held) at the element types Ballot Int: each by a contract. Printed by a program (wip/gen/help.py).
-/
import Derived.Test.YtcockjjilcapaaaCommon
import Derived.Test.YtcockjjilcapaaaRows
import Derived.WalkSpells
import Derived.WalkLawsBesides
import Derived.Deep.DeepMust
namespace Go.Proofs.Ytcockjjilcapaaa
open Go Go.RowKit Go.Sort
set_option linter.unusedVariables false
set_option maxRecDepth 100000

theorem bcell {W w1 : World} (hb : Below W.heap.size W w1) : (∀ b o, b < W.heap.size → w1.cell? ⟨b, o, none⟩ = W.cell? ⟨b, o, none⟩) ∧ (∀ b o, b < W.heap.size → w1.frozen? ⟨b, o, none⟩ = W.frozen? ⟨b, o, none⟩) :=
  ⟨fun b o h => hb.cell (p := ⟨b, o, none⟩) h, fun b o h => hb.frozen (p := ⟨b, o, none⟩) h⟩

/-- The mark of a bool. -/
def markB (k : Int) : Bool := (k % 3 == 0)

/-- The decimal digits of m (fuel f). -/
def digsF : Nat → Nat → List UInt8
  | 0, _ => []
  | f + 1, m => if m = 0 then [] else digsF f (m / 10) ++ [UInt8.ofNat (48 + m % 10)]
def mtext (k : Int) : ByteArray := ⟨#[109]⟩ ++ ⟨(digsF 20 k.toNat).toArray⟩
theorem digsF_zero (f : Nat) : digsF f 0 = [] := by cases f <;> rfl

set_option maxRecDepth 100000 in
set_option maxHeartbeats 1000000 in
theorem markText_any (k : Int) (w : World) (h0 : 0 < k) (h1 : k ≤ 10000000000) :
    Calls Try.prog 21 #[.int .i64 k] w fun e w' => e = .returned (.string (mtext k)) ∧ Below w.heap.size w w' := by
  obtain ⟨m0, rfl⟩ := Int.eq_ofNat_of_zero_le (Int.le_of_lt h0)
  go_enter Try.func21, Try.ntmps21
  go_wp2
  go_loopw [0, 3] (fun kv v wr => ∃ (f m : Nat) (p : ByteArray), kv = .int .i64 (m : Int) ∧ v = .string p ∧ m ≤ 10000000000 ∧ f + p.size = 20 ∧ m < 10 ^ f ∧ Below w.heap.size w wr ∧ digsF 20 m0 = digsF f m ++ p.data.toList) (fun kv _ _ => (intOf kv).toNat)
  case atStart => exact ⟨20, m0, ⟨#[]⟩, rfl, rfl, by omega, rfl, by omega, Below.refl _ _, by simp⟩
  case round =>
    obtain ⟨f, m, p, rfl, rfl, hm, hf, hlt, hbw, hd⟩ := hrel
    have HD := Lib.hid hd
    have HLT := Lib.hid hlt
    have HF := Lib.hid hf
    have hps : p.size ≤ 20 := by omega
    clear hd hlt hf
    by_cases h : 0 < m
    · obtain ⟨f', rfl⟩ : ∃ f', f = f' + 1 := by
        cases f with
        | zero => have := HLT.out; simp at this; omega
        | succ f' => exact ⟨f', rfl⟩
      have hcv := run_convert_bytes_arg (P := Try.prog) (wr.alloc (.cells #[.int .u8 (48 + (m : Int) % 10)] 5)) 51 5 Try.underlying51 Try.underlying5 wr.heap.size 0 1 1 [48 + (m : Int) % 10] rfl
        (fun i hi => by obtain rfl : i = 0 := by omega
                        exact cell_of_row _ _ _ _ _ _ (heap_new rfl)) 9 Try.underlying9
      obtain ⟨c, hc1, hc2, hc3⟩ : ∃ c : ByteArray, strOfNums [48 + (m : Int) % 10] = c ∧ c.size ≤ 1 ∧ c.data.toList = [UInt8.ofNat (48 + m % 10)] :=
        ⟨_, rfl, by rw [strOfNums_size]; simp, by rw [strOfNums_data]; simp only [List.map_cons, List.map_nil]; rw [show (48 + (m : Int) % 10).toNat = 48 + m % 10 from by omega]⟩
      rw [hc1] at hcv
      have HC := Lib.hid hc3
      have hsz : 1 ≤ c.size := by have := congrArg List.length hc3; simp at this; have h2 : c.size = c.data.size := rfl; omega
      have HD2 : Hid (digsF 20 m0 = digsF f' (m / 10) ++ (c ++ p).data.toList) := by
        show _ = _
        rw [HD.out, digsF, if_neg (by omega), ByteArray.data_append, Array.toList_append, HC.out, List.append_assoc]
      have HL2 : Hid (m / 10 < 10 ^ f') := by
        show _ < _
        have := HLT.out
        rw [Nat.pow_succ] at this
        omega
      clear hc1 hc3
      go_wp2
      go_roundw
      case rel => exact ⟨f', m / 10, c ++ p, by go_num, rfl, by omega, by have := HF.out; rw [ByteArray.size_append]; omega, HL2.out, below_trans hbw (below_alloc _), HD2.out⟩
      case measure => simp [intOf]; omega
    · obtain rfl : m = 0 := by omega
      have E : Hid ((⟨#[109]⟩ : ByteArray) ++ p = mtext (m0 : Int)) := by
        show _ = _
        unfold mtext
        rw [Int.toNat_natCast, HD.out, digsF_zero]
        rfl
      go_wp2
      go_ret
      exact ⟨ret_str E.out, hbw⟩

structure BA where
  code : Int
  ch : ByteArray
deriving DecidableEq
def baV (x : BA) : List Value := [.int .i64 x.code, .string x.ch]
theorem baV_len (x : BA) : (baV x).length = 2 := rfl
theorem Rd.ba {w : World} {A : Option Addr} {n c : Nat} {l : List BA} (h : Rd baV 2 w A n c l) {i : Nat} (hi : i < n) :
    ∃ b off x, A = some ⟨b, off, none⟩ ∧ l[i]? = some x ∧ w.cell? ⟨b, off + i * 2, none⟩ = some (.int .i64 x.code) ∧ w.cell? ⟨b, off + i * 2 + 1, none⟩ = some (.string x.ch) := by
  obtain ⟨b, off, e, hc⟩ := h.at_ (by omega)
  have hl : i < l.length := by have := h.len; omega
  exact ⟨b, off, l[i], e, List.getElem?_eq_getElem hl, hc i _ (List.getElem?_eq_getElem hl) 0 _ rfl, hc i _ (List.getElem?_eq_getElem hl) 1 _ rfl⟩

set_option maxHeartbeats 400000 in
theorem eqBallot_same (a0 : Int) (a1 : ByteArray) (w : World) :
    Calls Try.prog 20 #[.agg #[.int .i64 a0, .string a1], .agg #[.int .i64 a0, .string a1]] w fun e w' => e = .returned (.bool true) ∧ Below w.heap.size w w' := by
  go_enter Try.func20, Try.ntmps20
  go_wp2
  go_ret
  exact ⟨rfl, below_alloc2 _ _⟩

set_option maxHeartbeats 400000 in
theorem eqBallotS_same (A B : Option Addr) (n m c d : Nat) (l : List BA) (w : World) (ha : Rd baV 2 w A n c l) (hb : Rd baV 2 w B m d l) :
    Calls Try.prog 8 #[.slice A n c, .slice B m d] w fun e w' => e = .returned (.bool true) ∧ Below w.heap.size w w' := by
  have hm := ha.le
  obtain rfl : n = m := ha.len.symm.trans hb.len
  go_enter Try.func8, Try.ntmps8
  go_wp2
  go_loopw [5] (fun i wr => ∃ k : Nat, k ≤ n ∧ i = .int .i64 k ∧ Below w.heap.size w wr) (fun i _ => n - (intOf i).toNat)
  case atStart => exact ⟨0, Nat.zero_le _, rfl, Below.refl _ _⟩
  case round =>
    obtain ⟨k, hk, rfl, hbw⟩ := hrel
    by_cases hlt : k < n
    · obtain ⟨b1, o1, s, rfl, hs, c0, c1⟩ := (ha.below hbw).ba hlt
      obtain ⟨b2, o2, s', rfl, hs', d0, d1⟩ := (hb.below hbw).ba hlt
      obtain rfl : s = s' := by rw [hs] at hs'; injection hs'
      clear hs hs' ha hb
      have k0 := cell_regrown c0
      have q0 := cell_regrown d0
      have k1 := cell_regrown c1
      have q1 := cell_regrown d1
      go_wp2
      refine wp_region_quiet_below (by kernel_rfl) (by kernel_rfl) ?_
      repeat (go_big_quiet_step ((go_at_call 20; exact Calls.regrown_of (eqBallot_same _ _ _))))
      refine wpQuiet_nil ?_
      intro _ hw'
      obtain ⟨⟨dq, osq⟩, hw''⟩ := hw'
      subst hw''
      go_wp2
      go_roundw
      case rel => exact ⟨k + 1, by omega, by go_num, below_grow hbw _ _⟩
      case measure => simp [intOf]; omega
    · go_wp2
      go_ret
      exact ⟨rfl, hbw⟩

set_option maxHeartbeats 400000 in
theorem toBallot_any (a0 : Int) (a1 : ByteArray) (w : World) :
    Calls Try.prog 13 #[.agg #[.int .i64 a0, .string a1]] w fun e w' => e = .returned (.agg #[.int .i64 a0, .string a1]) ∧ Below w.heap.size w w' := by
  go_enter Try.func13, Try.ntmps13
  go_wp2
  refine bodyPost_ret (v := .agg #[.int .i64 a0, .string a1]) (by simp [results, Try.results13, go_sem]) rfl ⟨rfl, below_alloc3 _ _ _⟩

theorem Try.infoba : (Try.prog.info? 35).map (fun i => (i.zero, i.size, i.bytes)) = some (some (.agg #[.int .i64 0, .string ByteArray.empty]), 2, 24) := by kernel_rfl

set_option maxHeartbeats 400000 in
theorem toBallotS_any (A : Option Addr) (n c : Nat) (l : List BA) (w : World) (ha : Rd baV 2 w A n c l) (hn : n ≤ 1048576) :
    Calls Try.prog 6 #[.slice A n c] w fun e w' => ∃ B d, e = .returned (.slice B n d) ∧ Own baV 2 w' w.heap.size 35 B n d l ∧ Below w.heap.size w w' := by
  obtain ⟨i0, hi, hz0, hz1, hz2⟩ := info_parts Try.infoba
  go_enter Try.func6, Try.ntmps6
  go_wp2_with (at_make; refine wpList_make_full _ rfl _ _ _ rfl w.heap.size 35 i0 (.agg #[.int .i64 0, .string ByteArray.empty]) 2 Try.underlying24 hi hz0 hz1 .i64 .i64 _ _ n rfl rfl rfl rfl (by rw [hz2]; omega) (by simp only [maxLen]; omega) (Nat.le_refl _) ?_; intro w1 hown hg1)
  have ho : Own baV 2 w1 w.heap.size 35 (some ⟨w.heap.size, 0, none⟩) n n (List.replicate n ⟨0, ByteArray.empty⟩) := ⟨by simp, by rw [← made_flat (z := (Value.cells (.agg #[.int .i64 0, .string ByteArray.empty]))) baV_len (by omega) ⟨0, ByteArray.empty⟩ rfl]; exact hown⟩
  have hb1 : Below w.heap.size w w1 := below_of_grown hg1 (Nat.le_refl _) (fun k hk => by cases hk)
  clear hown hg1
  go_loopw [4] (fun i wr => ∃ k : Nat, k ≤ n ∧ i = .int .i64 k ∧ Own baV 2 wr w.heap.size 35 (some ⟨w.heap.size, 0, none⟩) n n (l.take k ++ List.replicate (n - k) ⟨0, ByteArray.empty⟩) ∧ Below w.heap.size w wr) (fun i _ => n - (intOf i).toNat)
  case atStart => exact ⟨0, Nat.zero_le _, rfl, by simpa using ho, hb1⟩
  case round =>
    clear ho hb1
    obtain ⟨k, hk, rfl, ho, hbw⟩ := hrel
    by_cases hlt : k < n
    · obtain ⟨b1, o1, s, rfl, hs, c0, c1⟩ := (ha.below hbw).ba hlt
      have hz := take_rep_get l ⟨0, ByteArray.empty⟩ k n hlt (by rw [ha.len]; exact Nat.le_refl _)
      have hsz := hbw.size
      clear ha
      have HS := Lib.hid hs
      clear hs
      go_wp2_with fail
      refine (toBallot_any _ _ _).mono ?_
      rintro e w2 ⟨rfl, hb2⟩
      have ho2 := ho.below hb2
      have q0 := ho2.cell baV_len (j := 0) hz rfl
      have f0 := ho2.frozen (k * 2 + 0)
      have q1 := ho2.cell baV_len (j := 1) hz rfl
      have f1 := ho2.frozen (k * 2 + 1)
      simp only [Nat.add_zero] at q0 f0
      have HZ := Lib.hid hz
      clear hz
      go_wp2
      go_roundw
      case rel => exact ⟨k + 1, by omega, by go_num, ho2.fill baV_len HS.out hlt, below_puts (baV s) (k * 2) (below_trans hbw hb2) (Nat.le_refl _)⟩
      case measure => simp [intOf]; omega
    · obtain rfl : k = n := by omega
      go_wp2
      go_ret
      exact ⟨_, _, rfl, by simpa [← ha.len] using ho, hbw⟩

/-- What szX leaves: -1, or the size guard is met. -/
def szPBallot (x : BA) (left r : Int) : Prop := r = -1 ∨ (0 ≤ r ∧ r ≤ left ∧ (x.ch.size : Int) ≤ left)

set_option maxRecDepth 100000 in
set_option maxHeartbeats 1000000 in
theorem szBallot_any (a0 : Int) (a1 : ByteArray) (left : Int) (w : World) (h0 : 0 ≤ left) (h1 : left ≤ 1048576) (g1 : a1.size ≤ maxLen) :
    Calls Try.prog 11 #[.agg #[.int .i64 a0, .string a1], .int .i64 left] w fun e w' => (∃ r : Int, e = .returned (.int .i64 r) ∧ szPBallot ⟨a0, a1⟩ left r) ∧ Below w.heap.size w w' := by
  unfold maxLen at g1
  by_cases s1 : left - (a1.size : Int) < 0
  · go_enter Try.func11, Try.ntmps11
    go_wp2
    go_ret
    exact ⟨⟨_, rfl, .inl rfl⟩, below_alloc _⟩
  · skip
    go_enter Try.func11, Try.ntmps11
    go_wp2
    go_ret
    exact ⟨⟨_, rfl, .inr ⟨by omega, by omega, (by show (a1.size : Int) ≤ left; omega)⟩⟩, below_alloc _⟩

def szPBallotS (l : List BA) (left r : Int) : Prop := r = -1 ∨ (0 ≤ r ∧ r ≤ left ∧ r + (l.length : Int) ≤ left ∧ ∀ x ∈ l, (x.ch.size : Int) ≤ left)

set_option maxRecDepth 100000 in
set_option maxHeartbeats 1000000 in
theorem szBallotS_any (A : Option Addr) (n c : Nat) (l : List BA) (left : Int) (w : World) (ha : Rd baV 2 w A n c l) (h0 : 0 ≤ left) (h1 : left ≤ 1048576) (hg : ∀ x ∈ l, x.ch.size ≤ maxLen) :
    Calls Try.prog 4 #[.slice A n c, .int .i64 left] w fun e w' => (∃ r : Int, e = .returned (.int .i64 r) ∧ szPBallotS l left r) ∧ Below w.heap.size w w' := by
  have hm := ha.le
  have HL := Lib.hid ha.len
  by_cases hs : left - (n : Int) < 0
  · clear ha
    go_enter Try.func4, Try.ntmps4
    go_wp2
    go_ret
    exact ⟨⟨_, rfl, .inl rfl⟩, Below.refl _ _⟩
  · go_enter Try.func4, Try.ntmps4
    go_wp2
    go_loopw [1, 5] (fun lv i wr => ∃ (k : Nat) (L : Int), k ≤ n ∧ i = .int .i64 k ∧ lv = .int .i64 L ∧ 0 ≤ L ∧ L + (n : Int) ≤ left ∧ Below w.heap.size w wr ∧ ∀ j x, j < k → l[j]? = some x → (x.ch.size : Int) ≤ left) (fun _ i _ => n - (intOf i).toNat)
    case atStart => exact ⟨0, left - n, Nat.zero_le _, rfl, rfl, by omega, by omega, Below.refl _ _, fun j x hj => absurd hj (by omega)⟩
    case round =>
      obtain ⟨k, L, hk, rfl, rfl, hL0, hL1, hbw, hup⟩ := hrel
      have HU := Lib.hid hup
      clear hup
      by_cases hlt : k < n
      · obtain ⟨b1, o1, x, rfl, hx, c0, c1⟩ := (ha.below hbw).ba hlt
        have hgx := hg x (List.mem_of_getElem? hx)
        have HX := Lib.hid hx
        clear hx ha
        go_wp2_with fail
        refine (szBallot_any _ _ L _ (by omega) (by omega) (hgx)).mono ?_
        rintro e w2 ⟨⟨r, rfl, hr⟩, b2⟩
        rcases hr with rfl | hr
        · go_wp2
          go_ret
          exact ⟨⟨_, rfl, .inl rfl⟩, below_trans hbw b2⟩
        · have hr0 := hr.1
          have hr1 := hr.2.1
          have HR := Lib.hid hr
          clear hr
          have HN : Hid (∀ j y, j < k + 1 → l[j]? = some y → (y.ch.size : Int) ≤ left) := fun j y hj hy => by
            by_cases e : j = k
            · subst e; rw [HX.out] at hy; injection hy with hy; subst hy; have := HR.out.2.2; simp only at this; omega
            · exact HU.out j y (by omega) hy
          go_wp2
          go_roundw
          case rel => exact ⟨k + 1, r, by omega, by go_num, rfl, hr0, by omega, below_trans hbw b2, HN.out⟩
          case measure => simp [intOf]; omega
      · obtain rfl : k = n := by omega
        have HN : Hid (szPBallotS l left L) := .inr ⟨hL0, by omega, by rw [HL.out]; omega, fun x hx => by
          obtain ⟨j, hj⟩ := List.mem_iff_getElem?.1 hx
          exact HU.out j x (by rw [← HL.out]; exact (List.getElem?_eq_some_iff.1 hj).1) hj⟩
        clear ha hg
        go_wp2
        go_ret
        exact ⟨⟨_, rfl, HN.out⟩, hbw⟩

def mkBallot (k : Int) : Nat → BA := fun (j : Nat) => (⟨(k + 2 * (j : Int)), (mtext (k + 2 * (j : Int) + 1))⟩ : BA)
/-- The list of marks that markBallotS leaves. -/
def marksBallot (k : Int) (n : Nat) : List BA := (List.range n).map (mkBallot k)
theorem marksBallot_get (k : Int) (n i : Nat) (hi : i < n) : (marksBallot k n)[i]? = some (mkBallot k i) := by simp [marksBallot, hi]
theorem marksBallot_len (k : Int) (n : Nat) : (marksBallot k n).length = n := by simp [marksBallot]

set_option maxHeartbeats 1000000 in
theorem markBallotS_any (A : Option Addr) (n c base e0 : Nat) (l : List BA) (k0 : Int) (w : World) (ha : Own baV 2 w base e0 A n c l) (h0 : 1 ≤ k0) (h1 : k0 ≤ 1000000000) (hn : n ≤ 4194304) (hsz : base ≤ w.heap.size) :
    Calls Try.prog 9 #[.slice A n c, .int .i64 k0] w fun e w' => e = .returned (.int .i64 (k0 + 2 * (n : Int))) ∧ Own baV 2 w' base e0 A n c (marksBallot k0 n) ∧ w.grownBy w' (blockOf A) := by
  have hm := (ha.rd baV_len).le
  go_enter Try.func9, Try.ntmps9
  go_wp2
  go_loopw [1, 5] (fun kv i wr => ∃ k : Nat, k ≤ n ∧ i = .int .i64 k ∧ kv = .int .i64 (k0 + 2 * (k : Int)) ∧ w.grownBy wr (blockOf A) ∧ ∃ l' : List BA, Own baV 2 wr base e0 A n c l' ∧ (∀ j, j < k → l'[j]? = some (mkBallot k0 j))) (fun _ i _ => n - (intOf i).toNat)
  case atStart => exact ⟨0, Nat.zero_le _, rfl, by simp, World.grownBy.refl _ _, l, ha, fun j hj => absurd hj (by omega)⟩
  case round =>
    obtain ⟨k, hk, rfl, rfl, hg, l', ho, hup⟩ := hrel
    by_cases hlt : k < n
    · obtain ⟨g, rfl⟩ := ho.form (by omega)
      have hkl : k < l'.length := by rw [ho.len]; exact hlt
      have hsr := hg.size
      clear ha
      have HU := Lib.hid (set_upto hup hkl)
      clear hup
      have hx := List.getElem?_eq_getElem hkl
      obtain ⟨s0, e0⟩ := ho.store baV_len (j := 0) hx (by omega) (⟨(k0 + 2 * (k : Int)), l'[k].ch⟩ : BA) (.int .i64 (k0 + 2 * (k : Int))) rfl
      have hx0 : (l'.set k (⟨(k0 + 2 * (k : Int)), l'[k].ch⟩ : BA))[k]? = some (⟨(k0 + 2 * (k : Int)), l'[k].ch⟩ : BA) := by simp [hkl]
      have H0 := grown_trans hg e0
      simp only [Nat.add_zero] at s0 H0
      have q0 := ho.cell baV_len (j := 0) hx rfl
      have f0 := ho.frozen (k * 2 + 0)
      have q1 := ho.cell baV_len (j := 1) hx rfl
      have f1 := ho.frozen (k * 2 + 1)
      simp only [Nat.add_zero] at q0 f0
      go_wp2_with fail
      refine (markText_any _ _ (by omega) (by omega)).mono ?_
      rintro e w3 ⟨rfl, b3⟩
      have o1 := s0.below b3
      have G1 := grown_below H0 b3
      have q1 := o1.cell baV_len (j := 1) hx0 rfl
      have f1 := o1.frozen (k * 2 + 1)
      obtain ⟨s1, e1⟩ := o1.store baV_len (j := 1) hx0 (by omega) (⟨(k0 + 2 * (k : Int)), (mtext (k0 + 2 * (k : Int) + 1))⟩ : BA) (.string (mtext (k0 + 2 * (k : Int) + 1))) rfl
      have hx1 : ((l'.set k (⟨(k0 + 2 * (k : Int)), l'[k].ch⟩ : BA)).set k (⟨(k0 + 2 * (k : Int)), (mtext (k0 + 2 * (k : Int) + 1))⟩ : BA))[k]? = some (⟨(k0 + 2 * (k : Int)), (mtext (k0 + 2 * (k : Int) + 1))⟩ : BA) := by simp [hkl]
      have H1 := grown_trans G1 e1
      have HO := Lib.hid s1
      have HG := Lib.hid H1
      clear hx hx0 s0 e0 H0 hx1 s1 e1 H1
      go_wp2
      go_roundw
      case rel => exact ⟨k + 1, by omega, by go_num, by go_num, HG.out, _, by simpa [List.set_set, mkBallot] using HO.out, HU.out⟩
      case measure => simp [intOf]; omega
    · obtain rfl : k = n := by omega
      have e := upto_eq ho.len hup
      have HO : Own baV 2 wr base e0 A k c (marksBallot k0 k) := by rw [e] at ho; exact ho
      have HH := Lib.hid HO
      clear e hup ho HO ha
      go_wp2
      go_ret
      exact ⟨rfl, HH.out, hg⟩

set_option maxHeartbeats 400000 in
theorem heldBallotS_any (A : Option Addr) (n c : Nat) (k0 : Int) (w : World) (ha : Rd baV 2 w A n c (marksBallot k0 n)) (h0 : 1 ≤ k0) (h1 : k0 ≤ 1000000000) (hn : n ≤ 4194304) :
    Calls Try.prog 10 #[.slice A n c, .int .i64 k0] w fun e w' => e = .returned (.int .i64 (k0 + 2 * (n : Int))) ∧ Below w.heap.size w w' := by
  have hm := ha.le
  go_enter Try.func10, Try.ntmps10
  go_wp2
  go_loopw [1, 5] (fun kv i wr => ∃ k : Nat, k ≤ n ∧ i = .int .i64 k ∧ kv = .int .i64 (k0 + 2 * (k : Int)) ∧ Below w.heap.size w wr) (fun _ i _ => n - (intOf i).toNat)
  case atStart => exact ⟨0, Nat.zero_le _, rfl, by simp, Below.refl _ _⟩
  case round =>
    obtain ⟨k, hk, rfl, rfl, hbw⟩ := hrel
    by_cases hlt : k < n
    · obtain ⟨b1, o1, s, rfl, hs, c0, c1⟩ := (ha.below hbw).ba hlt
      obtain rfl : mkBallot k0 k = s := by rw [marksBallot_get k0 n k hlt] at hs; injection hs
      clear hs ha
      simp only [mkBallot] at c0 c1
      have r1_0 := cell_regrown c0
      have r1_1 := cell_regrown c1
      go_wp2
      refine wp_region_quiet_below (by kernel_rfl) (by kernel_rfl) ?_
      repeat (go_big_quiet_step ((go_at_call 21; exact Calls.regrown_of (markText_any _ _ (by omega) (by omega)))))
      refine wpQuiet_nil ?_
      intro _ hw'
      obtain ⟨⟨dq1, osq1⟩, hw''⟩ := hw'
      subst hw''
      replace c0 := r1_0 dq1 osq1
      clear r1_0
      replace c1 := r1_1 dq1 osq1
      clear r1_1
      have B1 := below_grow hbw dq1 osq1
      generalize hgw1 : grow (redrawn _ dq1) osq1 = v1 at *
      clear hgw1
      go_wp2
      go_roundw
      case rel => exact ⟨k + 1, by omega, by go_num, by go_num, B1⟩
      case measure => simp [intOf]; omega
    · obtain rfl : k = n := by omega
      clear ha
      go_wp2
      go_ret
      exact ⟨rfl, hbw⟩

def inV (x : Int) : List Value := [.int .i64 x]
theorem inV_len (x : Int) : (inV x).length = 1 := rfl
theorem Rd.in {w : World} {A : Option Addr} {n c : Nat} {l : List Int} (h : Rd inV 1 w A n c l) {i : Nat} (hi : i < n) :
    ∃ b off x, A = some ⟨b, off, none⟩ ∧ l[i]? = some x ∧ w.cell? ⟨b, off + i, none⟩ = some (.int .i64 x) := by
  obtain ⟨b, off, e, hc⟩ := h.at_ (by omega)
  have hl : i < l.length := by have := h.len; omega
  exact ⟨b, off, l[i], e, List.getElem?_eq_getElem hl, by simpa using hc i _ (List.getElem?_eq_getElem hl) 0 _ rfl⟩

theorem Try.infoin : (Try.prog.info? 3).map (fun i => (i.zero, i.size, i.bytes)) = some (some (.int .i64 0), 1, 8) := by kernel_rfl

end Go.Proofs.Ytcockjjilcapaaa
