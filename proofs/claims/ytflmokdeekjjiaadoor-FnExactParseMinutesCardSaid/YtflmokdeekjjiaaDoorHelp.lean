/-
  YtflmokdeekjjiaaDoorHelp: the law file's own helpers (sz, to, eq, mark, held) at the element types Tally Entry: each by a contract. Printed by a program (wip/gen/help.py).
-/
import Derived.Test.YtflmokdeekjjiaaDoorCommon
import Derived.Test.YtflmokdeekjjiaaDoorRows
import Derived.WalkSpells
import Derived.WalkLawsBesides
import Derived.Deep.DeepMust
namespace Go.Proofs.YtflmokdeekjjiaaDoor
open Go Go.RowKit Go.Sort
set_option linter.unusedVariables false
set_option maxRecDepth 100000

theorem bcell {W w1 : World} (hb : Below W.heap.size W w1) : (∀ b o, b < W.heap.size → w1.cell? ⟨b, o, none⟩ = W.cell? ⟨b, o, none⟩) ∧ (∀ b o, b < W.heap.size → w1.frozen? ⟨b, o, none⟩ = W.frozen? ⟨b, o, none⟩) :=
  ⟨fun b o h => hb.cell (p := ⟨b, o, none⟩) h, fun b o h => hb.frozen (p := ⟨b, o, none⟩) h⟩

/-- The mark of a bool. -/
def markB (k : Int) : Bool := (k % 3 == 0)

/-- The decimal digits of m (fuel f). -/
def digsF : Nat → Nat → List UInt8
  | 0, _ => []
  | f + 1, m => if m = 0 then [] else digsF f (m / 10) ++ [UInt8.ofNat (48 + m % 10)]
def mtext (k : Int) : ByteArray := ⟨#[109]⟩ ++ ⟨(digsF 20 k.toNat).toArray⟩
theorem digsF_zero (f : Nat) : digsF f 0 = [] := by cases f <;> rfl

set_option maxRecDepth 100000 in
set_option maxHeartbeats 1000000 in
theorem markText_any (k : Int) (w : World) (h0 : 0 < k) (h1 : k ≤ 10000000000) :
    Calls Tryd.prog 30 #[.int .i64 k] w fun e w' => e = .returned (.string (mtext k)) ∧ Below w.heap.size w w' := by
  obtain ⟨m0, rfl⟩ := Int.eq_ofNat_of_zero_le (Int.le_of_lt h0)
  go_enter Tryd.func30, Tryd.ntmps30
  go_wp2
  go_loopw [0, 3] (fun kv v wr => ∃ (f m : Nat) (p : ByteArray), kv = .int .i64 (m : Int) ∧ v = .string p ∧ m ≤ 10000000000 ∧ f + p.size = 20 ∧ m < 10 ^ f ∧ Below w.heap.size w wr ∧ digsF 20 m0 = digsF f m ++ p.data.toList) (fun kv _ _ => (intOf kv).toNat)
  case atStart => exact ⟨20, m0, ⟨#[]⟩, rfl, rfl, by omega, rfl, by omega, Below.refl _ _, by simp⟩
  case round =>
    obtain ⟨f, m, p, rfl, rfl, hm, hf, hlt, hbw, hd⟩ := hrel
    have HD := Lib.hid hd
    have HLT := Lib.hid hlt
    have HF := Lib.hid hf
    have hps : p.size ≤ 20 := by omega
    clear hd hlt hf
    by_cases h : 0 < m
    · obtain ⟨f', rfl⟩ : ∃ f', f = f' + 1 := by
        cases f with
        | zero => have := HLT.out; simp at this; omega
        | succ f' => exact ⟨f', rfl⟩
      have hcv := run_convert_bytes_arg (P := Tryd.prog) (wr.alloc (.cells #[.int .u8 (48 + (m : Int) % 10)] 5)) 65 5 Tryd.underlying65 Tryd.underlying5 wr.heap.size 0 1 1 [48 + (m : Int) % 10] rfl
        (fun i hi => by obtain rfl : i = 0 := by omega
                        exact cell_of_row _ _ _ _ _ _ (heap_new rfl)) 9 Tryd.underlying9
      obtain ⟨c, hc1, hc2, hc3⟩ : ∃ c : ByteArray, strOfNums [48 + (m : Int) % 10] = c ∧ c.size ≤ 1 ∧ c.data.toList = [UInt8.ofNat (48 + m % 10)] :=
        ⟨_, rfl, by rw [strOfNums_size]; simp, by rw [strOfNums_data]; simp only [List.map_cons, List.map_nil]; rw [show (48 + (m : Int) % 10).toNat = 48 + m % 10 from by omega]⟩
      rw [hc1] at hcv
      have HC := Lib.hid hc3
      have hsz : 1 ≤ c.size := by have := congrArg List.length hc3; simp at this; have h2 : c.size = c.data.size := rfl; omega
      have HD2 : Hid (digsF 20 m0 = digsF f' (m / 10) ++ (c ++ p).data.toList) := by
        show _ = _
        rw [HD.out, digsF, if_neg (by omega), ByteArray.data_append, Array.toList_append, HC.out, List.append_assoc]
      have HL2 : Hid (m / 10 < 10 ^ f') := by
        show _ < _
        have := HLT.out
        rw [Nat.pow_succ] at this
        omega
      clear hc1 hc3
      go_wp2
      go_roundw
      case rel => exact ⟨f', m / 10, c ++ p, by go_num, rfl, by omega, by have := HF.out; rw [ByteArray.size_append]; omega, HL2.out, below_trans hbw (below_alloc _), HD2.out⟩
      case measure => simp [intOf]; omega
    · obtain rfl : m = 0 := by omega
      have E : Hid ((⟨#[109]⟩ : ByteArray) ++ p = mtext (m0 : Int)) := by
        show _ = _
        unfold mtext
        rw [Int.toNat_natCast, HD.out, digsF_zero]
        rfl
      go_wp2
      go_ret
      exact ⟨ret_str E.out, hbw⟩

structure TA where
  yes : Int
  no : Int
  ab : Int
deriving DecidableEq
def taV (x : TA) : List Value := [.int .i64 x.yes, .int .i64 x.no, .int .i64 x.ab]
theorem taV_len (x : TA) : (taV x).length = 3 := rfl
theorem Rd.ta {w : World} {A : Option Addr} {n c : Nat} {l : List TA} (h : Rd taV 3 w A n c l) {i : Nat} (hi : i < n) :
    ∃ b off x, A = some ⟨b, off, none⟩ ∧ l[i]? = some x ∧ w.cell? ⟨b, off + i * 3, none⟩ = some (.int .i64 x.yes) ∧ w.cell? ⟨b, off + i * 3 + 1, none⟩ = some (.int .i64 x.no) ∧ w.cell? ⟨b, off + i * 3 + 2, none⟩ = some (.int .i64 x.ab) := by
  obtain ⟨b, off, e, hc⟩ := h.at_ (by omega)
  have hl : i < l.length := by have := h.len; omega
  exact ⟨b, off, l[i], e, List.getElem?_eq_getElem hl, hc i _ (List.getElem?_eq_getElem hl) 0 _ rfl, hc i _ (List.getElem?_eq_getElem hl) 1 _ rfl, hc i _ (List.getElem?_eq_getElem hl) 2 _ rfl⟩

set_option maxHeartbeats 400000 in
theorem eqTally_same (a0 : Int) (a1 : Int) (a2 : Int) (w : World) :
    Calls Tryd.prog 38 #[.agg #[.int .i64 a0, .int .i64 a1, .int .i64 a2], .agg #[.int .i64 a0, .int .i64 a1, .int .i64 a2]] w fun e w' => e = .returned (.bool true) ∧ Below w.heap.size w w' := by
  go_enter Tryd.func38, Tryd.ntmps38
  go_wp2
  go_ret
  exact ⟨rfl, below_alloc2 _ _⟩

set_option maxHeartbeats 400000 in
theorem toTally_any (a0 : Int) (a1 : Int) (a2 : Int) (w : World) :
    Calls Tryd.prog 33 #[.agg #[.int .i64 a0, .int .i64 a1, .int .i64 a2]] w fun e w' => e = .returned (.agg #[.int .i64 a0, .int .i64 a1, .int .i64 a2]) ∧ Below w.heap.size w w' := by
  go_enter Tryd.func33, Tryd.ntmps33
  go_wp2
  refine bodyPost_ret (v := .agg #[.int .i64 a0, .int .i64 a1, .int .i64 a2]) (by simp [results, Tryd.results33, go_sem]) rfl ⟨rfl, below_alloc3 _ _ _⟩

structure EN where
  kind : Int
  who : ByteArray
  mo : ByteArray
  yes : Int
  no : Int
  ab : Int
  pa : Bool
deriving DecidableEq
def enV (x : EN) : List Value := [.int .i64 x.kind, .string x.who, .string x.mo, .int .i64 x.yes, .int .i64 x.no, .int .i64 x.ab, .bool x.pa]
theorem enV_len (x : EN) : (enV x).length = 7 := rfl
theorem Rd.en {w : World} {A : Option Addr} {n c : Nat} {l : List EN} (h : Rd enV 7 w A n c l) {i : Nat} (hi : i < n) :
    ∃ b off x, A = some ⟨b, off, none⟩ ∧ l[i]? = some x ∧ w.cell? ⟨b, off + i * 7, none⟩ = some (.int .i64 x.kind) ∧ w.cell? ⟨b, off + i * 7 + 1, none⟩ = some (.string x.who) ∧ w.cell? ⟨b, off + i * 7 + 2, none⟩ = some (.string x.mo) ∧ w.cell? ⟨b, off + i * 7 + 3, none⟩ = some (.int .i64 x.yes) ∧ w.cell? ⟨b, off + i * 7 + 4, none⟩ = some (.int .i64 x.no) ∧ w.cell? ⟨b, off + i * 7 + 5, none⟩ = some (.int .i64 x.ab) ∧ w.cell? ⟨b, off + i * 7 + 6, none⟩ = some (.bool x.pa) := by
  obtain ⟨b, off, e, hc⟩ := h.at_ (by omega)
  have hl : i < l.length := by have := h.len; omega
  exact ⟨b, off, l[i], e, List.getElem?_eq_getElem hl, hc i _ (List.getElem?_eq_getElem hl) 0 _ rfl, hc i _ (List.getElem?_eq_getElem hl) 1 _ rfl, hc i _ (List.getElem?_eq_getElem hl) 2 _ rfl, hc i _ (List.getElem?_eq_getElem hl) 3 _ rfl, hc i _ (List.getElem?_eq_getElem hl) 4 _ rfl, hc i _ (List.getElem?_eq_getElem hl) 5 _ rfl, hc i _ (List.getElem?_eq_getElem hl) 6 _ rfl⟩

set_option maxHeartbeats 400000 in
theorem eqEntry_same (a0 : Int) (a1 : ByteArray) (a2 : ByteArray) (a3 : Int) (a4 : Int) (a5 : Int) (a6 : Bool) (w : World) :
    Calls Tryd.prog 22 #[.agg #[.int .i64 a0, .string a1, .string a2, .int .i64 a3, .int .i64 a4, .int .i64 a5, .bool a6], .agg #[.int .i64 a0, .string a1, .string a2, .int .i64 a3, .int .i64 a4, .int .i64 a5, .bool a6]] w fun e w' => e = .returned (.bool true) ∧ Below w.heap.size w w' := by
  go_enter Tryd.func22, Tryd.ntmps22
  go_wp2
  go_ret
  exact ⟨rfl, below_trans (below_alloc2 _ _) (below_alloc2 _ _)⟩

set_option maxHeartbeats 400000 in
theorem eqEntryS_same (A B : Option Addr) (n m c d : Nat) (l : List EN) (w : World) (ha : Rd enV 7 w A n c l) (hb : Rd enV 7 w B m d l) :
    Calls Tryd.prog 9 #[.slice A n c, .slice B m d] w fun e w' => e = .returned (.bool true) ∧ Below w.heap.size w w' := by
  have hm := ha.le
  obtain rfl : n = m := ha.len.symm.trans hb.len
  go_enter Tryd.func9, Tryd.ntmps9
  go_wp2
  go_loopw [5] (fun i wr => ∃ k : Nat, k ≤ n ∧ i = .int .i64 k ∧ Below w.heap.size w wr) (fun i _ => n - (intOf i).toNat)
  case atStart => exact ⟨0, Nat.zero_le _, rfl, Below.refl _ _⟩
  case round =>
    obtain ⟨k, hk, rfl, hbw⟩ := hrel
    by_cases hlt : k < n
    · obtain ⟨b1, o1, s, rfl, hs, c0, c1, c2, c3, c4, c5, c6⟩ := (ha.below hbw).en hlt
      obtain ⟨b2, o2, s', rfl, hs', d0, d1, d2, d3, d4, d5, d6⟩ := (hb.below hbw).en hlt
      obtain rfl : s = s' := by rw [hs] at hs'; injection hs'
      clear hs hs' ha hb
      have k0 := cell_regrown c0
      have q0 := cell_regrown d0
      have k1 := cell_regrown c1
      have q1 := cell_regrown d1
      have k2 := cell_regrown c2
      have q2 := cell_regrown d2
      have k3 := cell_regrown c3
      have q3 := cell_regrown d3
      have k4 := cell_regrown c4
      have q4 := cell_regrown d4
      have k5 := cell_regrown c5
      have q5 := cell_regrown d5
      have k6 := cell_regrown c6
      have q6 := cell_regrown d6
      go_wp2
      refine wp_region_quiet_below (by kernel_rfl) (by kernel_rfl) ?_
      repeat (go_big_quiet_step ((go_at_call 22; exact Calls.regrown_of (eqEntry_same _ _ _ _ _ _ _ _))))
      refine wpQuiet_nil ?_
      intro _ hw'
      obtain ⟨⟨dq, osq⟩, hw''⟩ := hw'
      subst hw''
      go_wp2
      go_roundw
      case rel => exact ⟨k + 1, by omega, by go_num, below_grow hbw _ _⟩
      case measure => simp [intOf]; omega
    · go_wp2
      go_ret
      exact ⟨rfl, hbw⟩

set_option maxHeartbeats 400000 in
theorem toEntry_any (a0 : Int) (a1 : ByteArray) (a2 : ByteArray) (a3 : Int) (a4 : Int) (a5 : Int) (a6 : Bool) (w : World) :
    Calls Tryd.prog 14 #[.agg #[.int .i64 a0, .string a1, .string a2, .int .i64 a3, .int .i64 a4, .int .i64 a5, .bool a6]] w fun e w' => e = .returned (.agg #[.int .i64 a0, .string a1, .string a2, .int .i64 a3, .int .i64 a4, .int .i64 a5, .bool a6]) ∧ Below w.heap.size w w' := by
  go_enter Tryd.func14, Tryd.ntmps14
  go_wp2
  refine bodyPost_ret (v := .agg #[.int .i64 a3, .int .i64 a4, .int .i64 a5]) (by simp [results, Tryd.results33, go_sem]) rfl ?_
  go_wp2
  exact bodyPost_ret (v := .agg #[.int .i64 a0, .string a1, .string a2, .int .i64 a3, .int .i64 a4, .int .i64 a5, .bool a6]) (by simp [results, Tryd.results14, go_sem]) rfl ⟨rfl, below_trans (below_alloc3 _ _ _) (below_alloc3 _ _ _)⟩

theorem Tryd.infoen : (Tryd.prog.info? 37).map (fun i => (i.zero, i.size, i.bytes)) = some (some (.agg #[.int .i64 0, .string ByteArray.empty, .string ByteArray.empty, .int .i64 0, .int .i64 0, .int .i64 0, .bool false]), 7, 72) := by kernel_rfl

set_option maxHeartbeats 400000 in
theorem toEntryS_any (A : Option Addr) (n c : Nat) (l : List EN) (w : World) (ha : Rd enV 7 w A n c l) (hn : n ≤ 1048576) :
    Calls Tryd.prog 18 #[.slice A n c] w fun e w' => ∃ B d, e = .returned (.slice B n d) ∧ Own enV 7 w' w.heap.size 37 B n d l ∧ Below w.heap.size w w' := by
  obtain ⟨i0, hi, hz0, hz1, hz2⟩ := info_parts Tryd.infoen
  go_enter Tryd.func18, Tryd.ntmps18
  go_wp2_with (at_make; refine wpList_make_full _ rfl _ _ _ rfl w.heap.size 37 i0 (.agg #[.int .i64 0, .string ByteArray.empty, .string ByteArray.empty, .int .i64 0, .int .i64 0, .int .i64 0, .bool false]) 7 Tryd.underlying22 hi hz0 hz1 .i64 .i64 _ _ n rfl rfl rfl rfl (by rw [hz2]; omega) (by simp only [maxLen]; omega) (Nat.le_refl _) ?_; intro w1 hown hg1)
  have ho : Own enV 7 w1 w.heap.size 37 (some ⟨w.heap.size, 0, none⟩) n n (List.replicate n ⟨0, ByteArray.empty, ByteArray.empty, 0, 0, 0, false⟩) := ⟨by simp, by rw [← made_flat (z := (Value.cells (.agg #[.int .i64 0, .string ByteArray.empty, .string ByteArray.empty, .int .i64 0, .int .i64 0, .int .i64 0, .bool false]))) enV_len (by omega) ⟨0, ByteArray.empty, ByteArray.empty, 0, 0, 0, false⟩ rfl]; exact hown⟩
  have hb1 : Below w.heap.size w w1 := below_of_grown hg1 (Nat.le_refl _) (fun k hk => by cases hk)
  clear hown hg1
  go_loopw [4] (fun i wr => ∃ k : Nat, k ≤ n ∧ i = .int .i64 k ∧ Own enV 7 wr w.heap.size 37 (some ⟨w.heap.size, 0, none⟩) n n (l.take k ++ List.replicate (n - k) ⟨0, ByteArray.empty, ByteArray.empty, 0, 0, 0, false⟩) ∧ Below w.heap.size w wr) (fun i _ => n - (intOf i).toNat)
  case atStart => exact ⟨0, Nat.zero_le _, rfl, by simpa using ho, hb1⟩
  case round =>
    clear ho hb1
    obtain ⟨k, hk, rfl, ho, hbw⟩ := hrel
    by_cases hlt : k < n
    · obtain ⟨b1, o1, s, rfl, hs, c0, c1, c2, c3, c4, c5, c6⟩ := (ha.below hbw).en hlt
      have hz := take_rep_get l ⟨0, ByteArray.empty, ByteArray.empty, 0, 0, 0, false⟩ k n hlt (by rw [ha.len]; exact Nat.le_refl _)
      have hsz := hbw.size
      clear ha
      have HS := Lib.hid hs
      clear hs
      go_wp2_with fail
      refine (toEntry_any _ _ _ _ _ _ _ _).mono ?_
      rintro e w2 ⟨rfl, hb2⟩
      have ho2 := ho.below hb2
      have q0 := ho2.cell enV_len (j := 0) hz rfl
      have f0 := ho2.frozen (k * 7 + 0)
      have q1 := ho2.cell enV_len (j := 1) hz rfl
      have f1 := ho2.frozen (k * 7 + 1)
      have q2 := ho2.cell enV_len (j := 2) hz rfl
      have f2 := ho2.frozen (k * 7 + 2)
      have q3 := ho2.cell enV_len (j := 3) hz rfl
      have f3 := ho2.frozen (k * 7 + 3)
      have q4 := ho2.cell enV_len (j := 4) hz rfl
      have f4 := ho2.frozen (k * 7 + 4)
      have q5 := ho2.cell enV_len (j := 5) hz rfl
      have f5 := ho2.frozen (k * 7 + 5)
      have q6 := ho2.cell enV_len (j := 6) hz rfl
      have f6 := ho2.frozen (k * 7 + 6)
      simp only [Nat.add_zero] at q0 f0
      have HZ := Lib.hid hz
      clear hz
      go_wp2
      go_roundw
      case rel => exact ⟨k + 1, by omega, by go_num, ho2.fill enV_len HS.out hlt, below_puts (enV s) (k * 7) (below_trans hbw hb2) (Nat.le_refl _)⟩
      case measure => simp [intOf]; omega
    · obtain rfl : k = n := by omega
      go_wp2
      go_ret
      exact ⟨_, _, rfl, by simpa [← ha.len] using ho, hbw⟩

/-- What szX leaves: -1, or the size guard is met. -/
def szPEntry (x : EN) (left r : Int) : Prop := r = -1 ∨ (0 ≤ r ∧ r ≤ left ∧ (x.who.size : Int) ≤ left ∧ (x.mo.size : Int) ≤ left)

set_option maxRecDepth 100000 in
set_option maxHeartbeats 1000000 in
theorem szEntry_any (a0 : Int) (a1 : ByteArray) (a2 : ByteArray) (a3 : Int) (a4 : Int) (a5 : Int) (a6 : Bool) (left : Int) (w : World) (h0 : 0 ≤ left) (h1 : left ≤ 1048576) (g1 : a1.size ≤ maxLen) (g2 : a2.size ≤ maxLen) :
    Calls Tryd.prog 12 #[.agg #[.int .i64 a0, .string a1, .string a2, .int .i64 a3, .int .i64 a4, .int .i64 a5, .bool a6], .int .i64 left] w fun e w' => (∃ r : Int, e = .returned (.int .i64 r) ∧ szPEntry ⟨a0, a1, a2, a3, a4, a5, a6⟩ left r) ∧ Below w.heap.size w w' := by
  unfold maxLen at g1 g2
  by_cases s1 : left - (a1.size : Int) < 0
  · go_enter Tryd.func12, Tryd.ntmps12
    go_wp2
    go_ret
    exact ⟨⟨_, rfl, .inl rfl⟩, below_alloc _⟩
  · skip
    by_cases s2 : left - (a1.size : Int) - (a2.size : Int) < 0
    · go_enter Tryd.func12, Tryd.ntmps12
      go_wp2
      go_ret
      exact ⟨⟨_, rfl, .inl rfl⟩, below_alloc _⟩
    · skip
      go_enter Tryd.func12, Tryd.ntmps12
      go_wp2
      go_ret
      exact ⟨⟨_, rfl, .inr ⟨by omega, by omega, (by show (a1.size : Int) ≤ left; omega), (by show (a2.size : Int) ≤ left; omega)⟩⟩, below_alloc _⟩

def szPEntryS (l : List EN) (left r : Int) : Prop := r = -1 ∨ (0 ≤ r ∧ r ≤ left ∧ r + (l.length : Int) ≤ left ∧ ∀ x ∈ l, (x.who.size : Int) ≤ left ∧ (x.mo.size : Int) ≤ left)

set_option maxRecDepth 100000 in
set_option maxHeartbeats 1000000 in
theorem szEntryS_any (A : Option Addr) (n c : Nat) (l : List EN) (left : Int) (w : World) (ha : Rd enV 7 w A n c l) (h0 : 0 ≤ left) (h1 : left ≤ 1048576) (hg : ∀ x ∈ l, x.who.size ≤ maxLen ∧ x.mo.size ≤ maxLen) :
    Calls Tryd.prog 16 #[.slice A n c, .int .i64 left] w fun e w' => (∃ r : Int, e = .returned (.int .i64 r) ∧ szPEntryS l left r) ∧ Below w.heap.size w w' := by
  have hm := ha.le
  have HL := Lib.hid ha.len
  by_cases hs : left - (n : Int) < 0
  · clear ha
    go_enter Tryd.func16, Tryd.ntmps16
    go_wp2
    go_ret
    exact ⟨⟨_, rfl, .inl rfl⟩, Below.refl _ _⟩
  · go_enter Tryd.func16, Tryd.ntmps16
    go_wp2
    go_loopw [1, 5] (fun lv i wr => ∃ (k : Nat) (L : Int), k ≤ n ∧ i = .int .i64 k ∧ lv = .int .i64 L ∧ 0 ≤ L ∧ L + (n : Int) ≤ left ∧ Below w.heap.size w wr ∧ ∀ j x, j < k → l[j]? = some x → (x.who.size : Int) ≤ left ∧ (x.mo.size : Int) ≤ left) (fun _ i _ => n - (intOf i).toNat)
    case atStart => exact ⟨0, left - n, Nat.zero_le _, rfl, rfl, by omega, by omega, Below.refl _ _, fun j x hj => absurd hj (by omega)⟩
    case round =>
      obtain ⟨k, L, hk, rfl, rfl, hL0, hL1, hbw, hup⟩ := hrel
      have HU := Lib.hid hup
      clear hup
      by_cases hlt : k < n
      · obtain ⟨b1, o1, x, rfl, hx, c0, c1, c2, c3, c4, c5, c6⟩ := (ha.below hbw).en hlt
        have hgx := hg x (List.mem_of_getElem? hx)
        have HX := Lib.hid hx
        clear hx ha
        go_wp2_with fail
        refine (szEntry_any _ _ _ _ _ _ _ L _ (by omega) (by omega) (hgx.1) (hgx.2)).mono ?_
        rintro e w2 ⟨⟨r, rfl, hr⟩, b2⟩
        rcases hr with rfl | hr
        · go_wp2
          go_ret
          exact ⟨⟨_, rfl, .inl rfl⟩, below_trans hbw b2⟩
        · have hr0 := hr.1
          have hr1 := hr.2.1
          have HR := Lib.hid hr
          clear hr
          have HN : Hid (∀ j y, j < k + 1 → l[j]? = some y → (y.who.size : Int) ≤ left ∧ (y.mo.size : Int) ≤ left) := fun j y hj hy => by
            by_cases e : j = k
            · subst e; rw [HX.out] at hy; injection hy with hy; subst hy; have := HR.out.2.2; simp only at this; omega
            · exact HU.out j y (by omega) hy
          go_wp2
          go_roundw
          case rel => exact ⟨k + 1, r, by omega, by go_num, rfl, hr0, by omega, below_trans hbw b2, HN.out⟩
          case measure => simp [intOf]; omega
      · obtain rfl : k = n := by omega
        have HN : Hid (szPEntryS l left L) := .inr ⟨hL0, by omega, by rw [HL.out]; omega, fun x hx => by
          obtain ⟨j, hj⟩ := List.mem_iff_getElem?.1 hx
          exact HU.out j x (by rw [← HL.out]; exact (List.getElem?_eq_some_iff.1 hj).1) hj⟩
        clear ha hg
        go_wp2
        go_ret
        exact ⟨⟨_, rfl, HN.out⟩, hbw⟩

def mkEntry (k : Int) : Nat → EN := fun (j : Nat) => (⟨(k + 7 * (j : Int)), (mtext (k + 7 * (j : Int) + 1)), (mtext (k + 7 * (j : Int) + 1 + 1)), (k + 7 * (j : Int) + 1 + 1 + 1), (k + 7 * (j : Int) + 1 + 1 + 1 + 1), (k + 7 * (j : Int) + 1 + 1 + 1 + 1 + 1), (markB (k + 7 * (j : Int) + 1 + 1 + 1 + 1 + 1 + 1))⟩ : EN)
/-- The list of marks that markEntryS leaves. -/
def marksEntry (k : Int) (n : Nat) : List EN := (List.range n).map (mkEntry k)
theorem marksEntry_get (k : Int) (n i : Nat) (hi : i < n) : (marksEntry k n)[i]? = some (mkEntry k i) := by simp [marksEntry, hi]
theorem marksEntry_len (k : Int) (n : Nat) : (marksEntry k n).length = n := by simp [marksEntry]

set_option maxHeartbeats 1000000 in
theorem markEntryS_any (A : Option Addr) (n c base e0 : Nat) (l : List EN) (k0 : Int) (w : World) (ha : Own enV 7 w base e0 A n c l) (h0 : 1 ≤ k0) (h1 : k0 ≤ 1000000000) (hn : n ≤ 4194304) (hsz : base ≤ w.heap.size) :
    Calls Tryd.prog 10 #[.slice A n c, .int .i64 k0] w fun e w' => e = .returned (.int .i64 (k0 + 7 * (n : Int))) ∧ Own enV 7 w' base e0 A n c (marksEntry k0 n) ∧ w.grownBy w' (blockOf A) := by
  have hm := (ha.rd enV_len).le
  go_enter Tryd.func10, Tryd.ntmps10
  go_wp2
  go_loopw [1, 5] (fun kv i wr => ∃ k : Nat, k ≤ n ∧ i = .int .i64 k ∧ kv = .int .i64 (k0 + 7 * (k : Int)) ∧ w.grownBy wr (blockOf A) ∧ ∃ l' : List EN, Own enV 7 wr base e0 A n c l' ∧ (∀ j, j < k → l'[j]? = some (mkEntry k0 j))) (fun _ i _ => n - (intOf i).toNat)
  case atStart => exact ⟨0, Nat.zero_le _, rfl, by simp, World.grownBy.refl _ _, l, ha, fun j hj => absurd hj (by omega)⟩
  case round =>
    obtain ⟨k, hk, rfl, rfl, hg, l', ho, hup⟩ := hrel
    by_cases hlt : k < n
    · obtain ⟨g, rfl⟩ := ho.form (by omega)
      have hkl : k < l'.length := by rw [ho.len]; exact hlt
      have hsr := hg.size
      clear ha
      have HU := Lib.hid (set_upto hup hkl)
      clear hup
      have hx := List.getElem?_eq_getElem hkl
      obtain ⟨s0, e0⟩ := ho.store enV_len (j := 0) hx (by omega) (⟨(k0 + 7 * (k : Int)), l'[k].who, l'[k].mo, l'[k].yes, l'[k].no, l'[k].ab, l'[k].pa⟩ : EN) (.int .i64 (k0 + 7 * (k : Int))) rfl
      have hx0 : (l'.set k (⟨(k0 + 7 * (k : Int)), l'[k].who, l'[k].mo, l'[k].yes, l'[k].no, l'[k].ab, l'[k].pa⟩ : EN))[k]? = some (⟨(k0 + 7 * (k : Int)), l'[k].who, l'[k].mo, l'[k].yes, l'[k].no, l'[k].ab, l'[k].pa⟩ : EN) := by simp [hkl]
      have H0 := grown_trans hg e0
      simp only [Nat.add_zero] at s0 H0
      have q0 := ho.cell enV_len (j := 0) hx rfl
      have f0 := ho.frozen (k * 7 + 0)
      have q1 := ho.cell enV_len (j := 1) hx rfl
      have f1 := ho.frozen (k * 7 + 1)
      have q2 := ho.cell enV_len (j := 2) hx rfl
      have f2 := ho.frozen (k * 7 + 2)
      have q3 := ho.cell enV_len (j := 3) hx rfl
      have f3 := ho.frozen (k * 7 + 3)
      have q4 := ho.cell enV_len (j := 4) hx rfl
      have f4 := ho.frozen (k * 7 + 4)
      have q5 := ho.cell enV_len (j := 5) hx rfl
      have f5 := ho.frozen (k * 7 + 5)
      have q6 := ho.cell enV_len (j := 6) hx rfl
      have f6 := ho.frozen (k * 7 + 6)
      simp only [Nat.add_zero] at q0 f0
      go_wp2_with fail
      refine (markText_any _ _ (by omega) (by omega)).mono ?_
      rintro e w3 ⟨rfl, b3⟩
      have o1 := s0.below b3
      have G1 := grown_below H0 b3
      have q1 := o1.cell enV_len (j := 1) hx0 rfl
      have f1 := o1.frozen (k * 7 + 1)
      have q2 := o1.cell enV_len (j := 2) hx0 rfl
      have f2 := o1.frozen (k * 7 + 2)
      have q3 := o1.cell enV_len (j := 3) hx0 rfl
      have f3 := o1.frozen (k * 7 + 3)
      have q4 := o1.cell enV_len (j := 4) hx0 rfl
      have f4 := o1.frozen (k * 7 + 4)
      have q5 := o1.cell enV_len (j := 5) hx0 rfl
      have f5 := o1.frozen (k * 7 + 5)
      have q6 := o1.cell enV_len (j := 6) hx0 rfl
      have f6 := o1.frozen (k * 7 + 6)
      obtain ⟨s1, e1⟩ := o1.store enV_len (j := 1) hx0 (by omega) (⟨(k0 + 7 * (k : Int)), (mtext (k0 + 7 * (k : Int) + 1)), l'[k].mo, l'[k].yes, l'[k].no, l'[k].ab, l'[k].pa⟩ : EN) (.string (mtext (k0 + 7 * (k : Int) + 1))) rfl
      have hx1 : ((l'.set k (⟨(k0 + 7 * (k : Int)), l'[k].who, l'[k].mo, l'[k].yes, l'[k].no, l'[k].ab, l'[k].pa⟩ : EN)).set k (⟨(k0 + 7 * (k : Int)), (mtext (k0 + 7 * (k : Int) + 1)), l'[k].mo, l'[k].yes, l'[k].no, l'[k].ab, l'[k].pa⟩ : EN))[k]? = some (⟨(k0 + 7 * (k : Int)), (mtext (k0 + 7 * (k : Int) + 1)), l'[k].mo, l'[k].yes, l'[k].no, l'[k].ab, l'[k].pa⟩ : EN) := by simp [hkl]
      have H1 := grown_trans G1 e1
      go_wp2_with fail
      refine (markText_any _ _ (by omega) (by omega)).mono ?_
      rintro e w4 ⟨rfl, b4⟩
      have o2 := s1.below b4
      have G2 := grown_below H1 b4
      have q2 := o2.cell enV_len (j := 2) hx1 rfl
      have f2 := o2.frozen (k * 7 + 2)
      have q3 := o2.cell enV_len (j := 3) hx1 rfl
      have f3 := o2.frozen (k * 7 + 3)
      have q4 := o2.cell enV_len (j := 4) hx1 rfl
      have f4 := o2.frozen (k * 7 + 4)
      have q5 := o2.cell enV_len (j := 5) hx1 rfl
      have f5 := o2.frozen (k * 7 + 5)
      have q6 := o2.cell enV_len (j := 6) hx1 rfl
      have f6 := o2.frozen (k * 7 + 6)
      obtain ⟨s2, e2⟩ := o2.store enV_len (j := 2) hx1 (by omega) (⟨(k0 + 7 * (k : Int)), (mtext (k0 + 7 * (k : Int) + 1)), (mtext (k0 + 7 * (k : Int) + 1 + 1)), l'[k].yes, l'[k].no, l'[k].ab, l'[k].pa⟩ : EN) (.string (mtext (k0 + 7 * (k : Int) + 1 + 1))) rfl
      have hx2 : (((l'.set k (⟨(k0 + 7 * (k : Int)), l'[k].who, l'[k].mo, l'[k].yes, l'[k].no, l'[k].ab, l'[k].pa⟩ : EN)).set k (⟨(k0 + 7 * (k : Int)), (mtext (k0 + 7 * (k : Int) + 1)), l'[k].mo, l'[k].yes, l'[k].no, l'[k].ab, l'[k].pa⟩ : EN)).set k (⟨(k0 + 7 * (k : Int)), (mtext (k0 + 7 * (k : Int) + 1)), (mtext (k0 + 7 * (k : Int) + 1 + 1)), l'[k].yes, l'[k].no, l'[k].ab, l'[k].pa⟩ : EN))[k]? = some (⟨(k0 + 7 * (k : Int)), (mtext (k0 + 7 * (k : Int) + 1)), (mtext (k0 + 7 * (k : Int) + 1 + 1)), l'[k].yes, l'[k].no, l'[k].ab, l'[k].pa⟩ : EN) := by simp [hkl]
      have H2 := grown_trans G2 e2
      obtain ⟨s3, e3⟩ := s2.store enV_len (j := 3) hx2 (by omega) (⟨(k0 + 7 * (k : Int)), (mtext (k0 + 7 * (k : Int) + 1)), (mtext (k0 + 7 * (k : Int) + 1 + 1)), (k0 + 7 * (k : Int) + 1 + 1 + 1), l'[k].no, l'[k].ab, l'[k].pa⟩ : EN) (.int .i64 (k0 + 7 * (k : Int) + 1 + 1 + 1)) rfl
      have hx3 : ((((l'.set k (⟨(k0 + 7 * (k : Int)), l'[k].who, l'[k].mo, l'[k].yes, l'[k].no, l'[k].ab, l'[k].pa⟩ : EN)).set k (⟨(k0 + 7 * (k : Int)), (mtext (k0 + 7 * (k : Int) + 1)), l'[k].mo, l'[k].yes, l'[k].no, l'[k].ab, l'[k].pa⟩ : EN)).set k (⟨(k0 + 7 * (k : Int)), (mtext (k0 + 7 * (k : Int) + 1)), (mtext (k0 + 7 * (k : Int) + 1 + 1)), l'[k].yes, l'[k].no, l'[k].ab, l'[k].pa⟩ : EN)).set k (⟨(k0 + 7 * (k : Int)), (mtext (k0 + 7 * (k : Int) + 1)), (mtext (k0 + 7 * (k : Int) + 1 + 1)), (k0 + 7 * (k : Int) + 1 + 1 + 1), l'[k].no, l'[k].ab, l'[k].pa⟩ : EN))[k]? = some (⟨(k0 + 7 * (k : Int)), (mtext (k0 + 7 * (k : Int) + 1)), (mtext (k0 + 7 * (k : Int) + 1 + 1)), (k0 + 7 * (k : Int) + 1 + 1 + 1), l'[k].no, l'[k].ab, l'[k].pa⟩ : EN) := by simp [hkl]
      have H3 := grown_trans H2 e3
      obtain ⟨s4, e4⟩ := s3.store enV_len (j := 4) hx3 (by omega) (⟨(k0 + 7 * (k : Int)), (mtext (k0 + 7 * (k : Int) + 1)), (mtext (k0 + 7 * (k : Int) + 1 + 1)), (k0 + 7 * (k : Int) + 1 + 1 + 1), (k0 + 7 * (k : Int) + 1 + 1 + 1 + 1), l'[k].ab, l'[k].pa⟩ : EN) (.int .i64 (k0 + 7 * (k : Int) + 1 + 1 + 1 + 1)) rfl
      have hx4 : (((((l'.set k (⟨(k0 + 7 * (k : Int)), l'[k].who, l'[k].mo, l'[k].yes, l'[k].no, l'[k].ab, l'[k].pa⟩ : EN)).set k (⟨(k0 + 7 * (k : Int)), (mtext (k0 + 7 * (k : Int) + 1)), l'[k].mo, l'[k].yes, l'[k].no, l'[k].ab, l'[k].pa⟩ : EN)).set k (⟨(k0 + 7 * (k : Int)), (mtext (k0 + 7 * (k : Int) + 1)), (mtext (k0 + 7 * (k : Int) + 1 + 1)), l'[k].yes, l'[k].no, l'[k].ab, l'[k].pa⟩ : EN)).set k (⟨(k0 + 7 * (k : Int)), (mtext (k0 + 7 * (k : Int) + 1)), (mtext (k0 + 7 * (k : Int) + 1 + 1)), (k0 + 7 * (k : Int) + 1 + 1 + 1), l'[k].no, l'[k].ab, l'[k].pa⟩ : EN)).set k (⟨(k0 + 7 * (k : Int)), (mtext (k0 + 7 * (k : Int) + 1)), (mtext (k0 + 7 * (k : Int) + 1 + 1)), (k0 + 7 * (k : Int) + 1 + 1 + 1), (k0 + 7 * (k : Int) + 1 + 1 + 1 + 1), l'[k].ab, l'[k].pa⟩ : EN))[k]? = some (⟨(k0 + 7 * (k : Int)), (mtext (k0 + 7 * (k : Int) + 1)), (mtext (k0 + 7 * (k : Int) + 1 + 1)), (k0 + 7 * (k : Int) + 1 + 1 + 1), (k0 + 7 * (k : Int) + 1 + 1 + 1 + 1), l'[k].ab, l'[k].pa⟩ : EN) := by simp [hkl]
      have H4 := grown_trans H3 e4
      obtain ⟨s5, e5⟩ := s4.store enV_len (j := 5) hx4 (by omega) (⟨(k0 + 7 * (k : Int)), (mtext (k0 + 7 * (k : Int) + 1)), (mtext (k0 + 7 * (k : Int) + 1 + 1)), (k0 + 7 * (k : Int) + 1 + 1 + 1), (k0 + 7 * (k : Int) + 1 + 1 + 1 + 1), (k0 + 7 * (k : Int) + 1 + 1 + 1 + 1 + 1), l'[k].pa⟩ : EN) (.int .i64 (k0 + 7 * (k : Int) + 1 + 1 + 1 + 1 + 1)) rfl
      have hx5 : ((((((l'.set k (⟨(k0 + 7 * (k : Int)), l'[k].who, l'[k].mo, l'[k].yes, l'[k].no, l'[k].ab, l'[k].pa⟩ : EN)).set k (⟨(k0 + 7 * (k : Int)), (mtext (k0 + 7 * (k : Int) + 1)), l'[k].mo, l'[k].yes, l'[k].no, l'[k].ab, l'[k].pa⟩ : EN)).set k (⟨(k0 + 7 * (k : Int)), (mtext (k0 + 7 * (k : Int) + 1)), (mtext (k0 + 7 * (k : Int) + 1 + 1)), l'[k].yes, l'[k].no, l'[k].ab, l'[k].pa⟩ : EN)).set k (⟨(k0 + 7 * (k : Int)), (mtext (k0 + 7 * (k : Int) + 1)), (mtext (k0 + 7 * (k : Int) + 1 + 1)), (k0 + 7 * (k : Int) + 1 + 1 + 1), l'[k].no, l'[k].ab, l'[k].pa⟩ : EN)).set k (⟨(k0 + 7 * (k : Int)), (mtext (k0 + 7 * (k : Int) + 1)), (mtext (k0 + 7 * (k : Int) + 1 + 1)), (k0 + 7 * (k : Int) + 1 + 1 + 1), (k0 + 7 * (k : Int) + 1 + 1 + 1 + 1), l'[k].ab, l'[k].pa⟩ : EN)).set k (⟨(k0 + 7 * (k : Int)), (mtext (k0 + 7 * (k : Int) + 1)), (mtext (k0 + 7 * (k : Int) + 1 + 1)), (k0 + 7 * (k : Int) + 1 + 1 + 1), (k0 + 7 * (k : Int) + 1 + 1 + 1 + 1), (k0 + 7 * (k : Int) + 1 + 1 + 1 + 1 + 1), l'[k].pa⟩ : EN))[k]? = some (⟨(k0 + 7 * (k : Int)), (mtext (k0 + 7 * (k : Int) + 1)), (mtext (k0 + 7 * (k : Int) + 1 + 1)), (k0 + 7 * (k : Int) + 1 + 1 + 1), (k0 + 7 * (k : Int) + 1 + 1 + 1 + 1), (k0 + 7 * (k : Int) + 1 + 1 + 1 + 1 + 1), l'[k].pa⟩ : EN) := by simp [hkl]
      have H5 := grown_trans H4 e5
      obtain ⟨s6, e6⟩ := s5.store enV_len (j := 6) hx5 (by omega) (⟨(k0 + 7 * (k : Int)), (mtext (k0 + 7 * (k : Int) + 1)), (mtext (k0 + 7 * (k : Int) + 1 + 1)), (k0 + 7 * (k : Int) + 1 + 1 + 1), (k0 + 7 * (k : Int) + 1 + 1 + 1 + 1), (k0 + 7 * (k : Int) + 1 + 1 + 1 + 1 + 1), (markB (k0 + 7 * (k : Int) + 1 + 1 + 1 + 1 + 1 + 1))⟩ : EN) (.bool (markB (k0 + 7 * (k : Int) + 1 + 1 + 1 + 1 + 1 + 1))) rfl
      have hx6 : (((((((l'.set k (⟨(k0 + 7 * (k : Int)), l'[k].who, l'[k].mo, l'[k].yes, l'[k].no, l'[k].ab, l'[k].pa⟩ : EN)).set k (⟨(k0 + 7 * (k : Int)), (mtext (k0 + 7 * (k : Int) + 1)), l'[k].mo, l'[k].yes, l'[k].no, l'[k].ab, l'[k].pa⟩ : EN)).set k (⟨(k0 + 7 * (k : Int)), (mtext (k0 + 7 * (k : Int) + 1)), (mtext (k0 + 7 * (k : Int) + 1 + 1)), l'[k].yes, l'[k].no, l'[k].ab, l'[k].pa⟩ : EN)).set k (⟨(k0 + 7 * (k : Int)), (mtext (k0 + 7 * (k : Int) + 1)), (mtext (k0 + 7 * (k : Int) + 1 + 1)), (k0 + 7 * (k : Int) + 1 + 1 + 1), l'[k].no, l'[k].ab, l'[k].pa⟩ : EN)).set k (⟨(k0 + 7 * (k : Int)), (mtext (k0 + 7 * (k : Int) + 1)), (mtext (k0 + 7 * (k : Int) + 1 + 1)), (k0 + 7 * (k : Int) + 1 + 1 + 1), (k0 + 7 * (k : Int) + 1 + 1 + 1 + 1), l'[k].ab, l'[k].pa⟩ : EN)).set k (⟨(k0 + 7 * (k : Int)), (mtext (k0 + 7 * (k : Int) + 1)), (mtext (k0 + 7 * (k : Int) + 1 + 1)), (k0 + 7 * (k : Int) + 1 + 1 + 1), (k0 + 7 * (k : Int) + 1 + 1 + 1 + 1), (k0 + 7 * (k : Int) + 1 + 1 + 1 + 1 + 1), l'[k].pa⟩ : EN)).set k (⟨(k0 + 7 * (k : Int)), (mtext (k0 + 7 * (k : Int) + 1)), (mtext (k0 + 7 * (k : Int) + 1 + 1)), (k0 + 7 * (k : Int) + 1 + 1 + 1), (k0 + 7 * (k : Int) + 1 + 1 + 1 + 1), (k0 + 7 * (k : Int) + 1 + 1 + 1 + 1 + 1), (markB (k0 + 7 * (k : Int) + 1 + 1 + 1 + 1 + 1 + 1))⟩ : EN))[k]? = some (⟨(k0 + 7 * (k : Int)), (mtext (k0 + 7 * (k : Int) + 1)), (mtext (k0 + 7 * (k : Int) + 1 + 1)), (k0 + 7 * (k : Int) + 1 + 1 + 1), (k0 + 7 * (k : Int) + 1 + 1 + 1 + 1), (k0 + 7 * (k : Int) + 1 + 1 + 1 + 1 + 1), (markB (k0 + 7 * (k : Int) + 1 + 1 + 1 + 1 + 1 + 1))⟩ : EN) := by simp [hkl]
      have H6 := grown_trans H5 e6
      have HO := Lib.hid s6
      have HG := Lib.hid H6
      clear hx hx0 s0 e0 H0 hx1 s1 e1 H1 hx2 s2 e2 H2 hx3 s3 e3 H3 hx4 s4 e4 H4 hx5 s5 e5 H5 hx6 s6 e6 H6
      go_wp2
      go_roundw
      case rel => exact ⟨k + 1, by omega, by go_num, by go_num, HG.out, _, by simpa [List.set_set, mkEntry, markB, Nat.add_assoc] using HO.out, HU.out⟩
      case measure => simp [intOf]; omega
    · obtain rfl : k = n := by omega
      have e := upto_eq ho.len hup
      have HO : Own enV 7 wr base e0 A k c (marksEntry k0 k) := by rw [e] at ho; exact ho
      have HH := Lib.hid HO
      clear e hup ho HO ha
      go_wp2
      go_ret
      exact ⟨rfl, HH.out, hg⟩

set_option maxHeartbeats 400000 in
theorem heldEntryS_any (A : Option Addr) (n c : Nat) (k0 : Int) (w : World) (ha : Rd enV 7 w A n c (marksEntry k0 n)) (h0 : 1 ≤ k0) (h1 : k0 ≤ 1000000000) (hn : n ≤ 4194304) :
    Calls Tryd.prog 11 #[.slice A n c, .int .i64 k0] w fun e w' => e = .returned (.int .i64 (k0 + 7 * (n : Int))) ∧ Below w.heap.size w w' := by
  have hm := ha.le
  go_enter Tryd.func11, Tryd.ntmps11
  go_wp2
  go_loopw [1, 5] (fun kv i wr => ∃ k : Nat, k ≤ n ∧ i = .int .i64 k ∧ kv = .int .i64 (k0 + 7 * (k : Int)) ∧ Below w.heap.size w wr) (fun _ i _ => n - (intOf i).toNat)
  case atStart => exact ⟨0, Nat.zero_le _, rfl, by simp, Below.refl _ _⟩
  case round =>
    obtain ⟨k, hk, rfl, rfl, hbw⟩ := hrel
    by_cases hlt : k < n
    · obtain ⟨b1, o1, s, rfl, hs, c0, c1, c2, c3, c4, c5, c6⟩ := (ha.below hbw).en hlt
      obtain rfl : mkEntry k0 k = s := by rw [marksEntry_get k0 n k hlt] at hs; injection hs
      clear hs ha
      simp only [mkEntry, markB] at c0 c1 c2 c3 c4 c5 c6
      have r1_0 := cell_regrown c0
      have r1_1 := cell_regrown c1
      have r1_2 := cell_regrown c2
      have r1_3 := cell_regrown c3
      have r1_4 := cell_regrown c4
      have r1_5 := cell_regrown c5
      have r1_6 := cell_regrown c6
      go_wp2
      refine wp_region_quiet_below (by kernel_rfl) (by kernel_rfl) ?_
      repeat (go_big_quiet_step ((go_at_call 30; exact Calls.regrown_of (markText_any _ _ (by omega) (by omega)))))
      refine wpQuiet_nil ?_
      intro _ hw'
      obtain ⟨⟨dq1, osq1⟩, hw''⟩ := hw'
      subst hw''
      replace c0 := r1_0 dq1 osq1
      clear r1_0
      replace c1 := r1_1 dq1 osq1
      clear r1_1
      replace c2 := r1_2 dq1 osq1
      clear r1_2
      replace c3 := r1_3 dq1 osq1
      clear r1_3
      replace c4 := r1_4 dq1 osq1
      clear r1_4
      replace c5 := r1_5 dq1 osq1
      clear r1_5
      replace c6 := r1_6 dq1 osq1
      clear r1_6
      have B1 := below_grow hbw dq1 osq1
      generalize hgw1 : grow (redrawn _ dq1) osq1 = v1 at *
      clear hgw1
      have r2_0 := cell_regrown c0
      have r2_1 := cell_regrown c1
      have r2_2 := cell_regrown c2
      have r2_3 := cell_regrown c3
      have r2_4 := cell_regrown c4
      have r2_5 := cell_regrown c5
      have r2_6 := cell_regrown c6
      go_wp2
      refine wp_region_quiet_below (by kernel_rfl) (by kernel_rfl) ?_
      repeat (go_big_quiet_step ((go_at_call 30; exact Calls.regrown_of (markText_any _ _ (by omega) (by omega)))))
      refine wpQuiet_nil ?_
      intro _ hw'
      obtain ⟨⟨dq2, osq2⟩, hw''⟩ := hw'
      subst hw''
      replace c0 := r2_0 dq2 osq2
      clear r2_0
      replace c1 := r2_1 dq2 osq2
      clear r2_1
      replace c2 := r2_2 dq2 osq2
      clear r2_2
      replace c3 := r2_3 dq2 osq2
      clear r2_3
      replace c4 := r2_4 dq2 osq2
      clear r2_4
      replace c5 := r2_5 dq2 osq2
      clear r2_5
      replace c6 := r2_6 dq2 osq2
      clear r2_6
      have B2 := below_grow B1 dq2 osq2
      generalize hgw2 : grow (redrawn _ dq2) osq2 = v2 at *
      clear hgw2
      go_wp2
      go_roundw
      case rel => exact ⟨k + 1, by omega, by go_num, by go_num, B2⟩
      case measure => simp [intOf]; omega
    · obtain rfl : k = n := by omega
      clear ha
      go_wp2
      go_ret
      exact ⟨rfl, hbw⟩

end Go.Proofs.YtflmokdeekjjiaaDoor
