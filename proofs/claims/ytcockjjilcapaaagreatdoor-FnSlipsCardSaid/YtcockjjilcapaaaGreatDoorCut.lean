/-
  YtcockjjilcapaaaGreatDoorCut: texts cut at a byte: the plain law, and what strings.Split's contract says at a cut of one byte. Numbers and their letters. No program in sight.
-/
import Derived.Test.YtcockjjilcapaaaGreatDoorNum
import Derived.Lib.SplitLaws
import Derived.Lib.AtoiTie
import Derived.Lib.ItoaMem
import Derived.Lib.ItoaLen
import Derived.Lib.IndexBytes
namespace Go.Proofs.YtcockjjilcapaaaGreatDoor
open Go Go.RowKit Go.Sort
set_option linter.unusedVariables false

/-- The parts of a list between bytes; cur: what has been read of the present part. -/
def cutL (b : UInt8) : List UInt8 → List UInt8 → List (List UInt8)
  | cur, [] => [cur]
  | cur, x :: r => if x = b then cur :: cutL b [] r else cutL b (cur ++ [x]) r
theorem cutL_hit (b : UInt8) (cur r : List UInt8) : cutL b cur (b :: r) = cur :: cutL b [] r := by rw [cutL, if_pos rfl]
theorem cutL_miss {b x : UInt8} (h : x ≠ b) (cur r : List UInt8) : cutL b cur (x :: r) = cutL b (cur ++ [x]) r := by rw [cutL, if_neg h]
theorem cutL_end {b : UInt8} {u : List UInt8} (h : b ∉ u) : ∀ cur, cutL b cur u = [cur ++ u] := by
  induction u with
  | nil => intro cur; simp [cutL]
  | cons x r ih =>
    intro cur
    rw [cutL_miss (fun e => h (by simp [e]))]
    rw [ih (fun e => h (by simp [e]))]
    simp
theorem cutL_app {b : UInt8} {u : List UInt8} (h : b ∉ u) (r : List UInt8) : ∀ cur, cutL b cur (u ++ b :: r) = (cur ++ u) :: cutL b [] r := by
  induction u with
  | nil => intro cur; simp [cutL]
  | cons x t ih =>
    intro cur
    rw [List.cons_append, cutL_miss (fun e => h (by simp [e])), ih (fun e => h (by simp [e]))]
    simp
theorem cutL_len (b : UInt8) : ∀ (l cur : List UInt8), (cutL b cur l).length ≤ l.length + 1
  | [], _ => by simp [cutL]
  | x :: r, cur => by
    unfold cutL
    split
    · have := cutL_len b r []; simp only [List.length_cons]; omega
    · have := cutL_len b r (cur ++ [x]); simp only [List.length_cons]; omega
theorem cutL_size (b : UInt8) : ∀ (l cur : List UInt8), ∀ p ∈ cutL b cur l, p.length ≤ cur.length + l.length
  | [], cur => by intro p hp; simp [cutL] at hp; subst hp; simp
  | x :: r, cur => by
    intro p hp
    unfold cutL at hp
    split at hp
    · rcases List.mem_cons.1 hp with rfl | hp
      · simp
      · have := cutL_size b r [] p hp
        simp only [List.length_cons, List.length_nil] at this ⊢
        omega
    · have := cutL_size b r (cur ++ [x]) p hp
      simp only [List.length_cons, List.length_append, List.length_nil] at this ⊢
      omega
theorem cutL_ne (b : UInt8) : ∀ (l cur : List UInt8), cutL b cur l ≠ []
  | [], cur => by simp [cutL]
  | x :: r, cur => by
    unfold cutL
    split
    · simp
    · exact cutL_ne b r _

def mkB (l : List UInt8) : ByteArray := ⟨l.toArray⟩
theorem mkB_data (s : ByteArray) : mkB s.data.toList = s := by cases s; rfl
theorem mkB_size (l : List UInt8) : (mkB l).size = l.length := by simp [mkB, ByteArray.size]
theorem data_mkB (l : List UInt8) : (mkB l).data.toList = l := by simp [mkB]
/-- The parts of a text between bytes. -/
def cutS (s : ByteArray) (b : UInt8) : List ByteArray := (cutL b [] s.data.toList).map mkB
theorem cutS_len (s : ByteArray) (b : UInt8) : (cutS s b).length ≤ s.size + 1 := by
  unfold cutS
  rw [List.length_map]
  exact cutL_len b _ _
theorem cutS_size {s : ByteArray} {b : UInt8} {p : ByteArray} (h : p ∈ cutS s b) : p.size ≤ s.size := by
  unfold cutS at h
  obtain ⟨q, hq, rfl⟩ := List.mem_map.1 h
  have := cutL_size b _ _ q hq
  rw [mkB_size]
  simpa using this
theorem cutS_pos (s : ByteArray) (b : UInt8) : 0 < (cutS s b).length := by
  unfold cutS
  rw [List.length_map]
  exact List.length_pos_iff.2 (cutL_ne b _ _)
theorem cutS_end {s : ByteArray} {b : UInt8} (h : b ∉ s.data.toList) : cutS s b = [s] := by
  unfold cutS
  rw [cutL_end h]
  simp [mkB_data]
theorem cutS_app {u : ByteArray} {b : UInt8} (h : b ∉ u.data.toList) (r : ByteArray) : cutS (u ++ ⟨#[b]⟩ ++ r) b = u :: cutS r b := by
  unfold cutS
  have e : (u ++ ⟨#[b]⟩ ++ r).data.toList = u.data.toList ++ b :: r.data.toList := by simp
  rw [e, cutL_app h]
  simp [mkB_data]

theorem occ_one {s : List UInt8} {b : UInt8} {i : Nat} : Lib.occAt s [b] i = true ↔ s[i]? = some b := by
  constructor
  · intro h; exact Lib.occAt_head rfl h
  · intro h
    have hl := (List.getElem?_eq_some_iff.1 h).1
    unfold Lib.occAt
    rw [List.drop_eq_getElem_cons hl]
    have e2 : s[i] = b := (List.getElem?_eq_some_iff.1 h).2
    simp [e2]
/-- strings.Split at a text of one byte. -/
theorem splitB_cut (b : UInt8) : ∀ (k : Nat) (s : ByteArray), Lib.countB s ⟨#[b]⟩ = k → Lib.splitB ⟨#[b]⟩ 0 k s = cutS s b := by
  have hmiss : ∀ s : ByteArray, Lib.indexB s ⟨#[b]⟩ = -1 → b ∉ s.data.toList := by
    intro s h hb
    obtain ⟨i, hi⟩ := List.mem_iff_getElem?.1 hb
    rcases Lib.index_spec s.data.toList [b] with ⟨_, hn⟩ | ⟨j, hj, _⟩
    · have := occ_one.2 hi
      have hl := (List.getElem?_eq_some_iff.1 hi).1
      rw [hn i (by omega)] at this
      cases this
    · have h' : Lib.index s.data.toList [b] = -1 := h
      omega
  intro k
  induction k with
  | zero =>
    intro s hk
    rcases Lib.indexB_cases s ⟨#[b]⟩ with h | ⟨i, h, _⟩
    · rw [Lib.splitB_zero, cutS_end (hmiss s h)]
    · have := Lib.countB_hit s ⟨#[b]⟩ i (Nat.le_refl _) h
      omega
  | succ k ih =>
    intro s hk
    rcases Lib.indexB_cases s ⟨#[b]⟩ with h | ⟨i, h, hroom⟩
    · rw [Lib.countB_miss s ⟨#[b]⟩ h] at hk; omega
    · have hc := Lib.countB_hit s ⟨#[b]⟩ i (Nat.le_refl _) h
      have e1 : (⟨#[b]⟩ : ByteArray).size = 1 := rfl
      rw [e1] at hc hroom
      have hs : s = s.extract 0 i ++ ⟨#[b]⟩ ++ s.extract (i + 1) s.size := by
        apply ByteArray.ext
        rw [← Array.toList_inj]
        have e2 : (s.extract 0 i).data.toList = s.data.toList.take i := Lib.extract_from_zero s i
        have e3 : (s.extract (i + 1) s.size).data.toList = s.data.toList.drop (i + 1) := Lib.extract_to_end s (i + 1)
        have e4 : (s.extract 0 i ++ ⟨#[b]⟩ ++ s.extract (i + 1) s.size).data.toList = s.data.toList.take i ++ b :: s.data.toList.drop (i + 1) := by
          rw [← e2, ← e3]; simp
        rw [e4]
        rcases Lib.index_spec s.data.toList [b] with ⟨h', _⟩ | ⟨j, hj, hl, ho, _⟩
        · have h'' : Lib.index s.data.toList [b] = i := h
          omega
        · have h'' : Lib.index s.data.toList [b] = i := h
          obtain rfl : j = i := by omega
          have hb := occ_one.1 ho
          obtain ⟨hl2, hb2⟩ := List.getElem?_eq_some_iff.1 hb
          conv => lhs; rw [← List.take_append_drop j s.data.toList, List.drop_eq_getElem_cons hl2, hb2]
      have hnot : b ∉ (s.extract 0 i).data.toList := by
        rw [Lib.extract_from_zero]
        intro hb
        obtain ⟨t, ht⟩ := List.mem_iff_getElem?.1 hb
        have htl : t < i := by
          have := (List.getElem?_eq_some_iff.1 ht).1
          rw [List.length_take] at this
          omega
        rw [List.getElem?_take_of_lt htl] at ht
        rcases Lib.index_spec s.data.toList [b] with ⟨h', _⟩ | ⟨j, hj, _, _, hno⟩
        · have h'' : Lib.index s.data.toList [b] = i := h
          omega
        · have h'' : Lib.index s.data.toList [b] = i := h
          have := hno t (by omega)
          rw [occ_one.2 ht] at this
          cases this
      rw [Lib.splitB_hit ⟨#[b]⟩ 0 k s i h]
      show s.extract 0 i :: Lib.splitB ⟨#[b]⟩ 0 k (s.extract (i + 1) s.size) = _
      rw [ih _ (by rw [e1] at *; omega)]
      conv => rhs; rw [hs]
      rw [cutS_app hnot]

/-! ### where a loop cuts -/
/-- What is still to come where a loop stands at k and the present part began at f. -/
def cutF (s : ByteArray) (b : UInt8) (f k : Nat) : List ByteArray := (cutL b ((s.data.toList.drop f).take (k - f)) (s.data.toList.drop k)).map mkB
theorem cutF_0 (s : ByteArray) (b : UInt8) : cutF s b 0 0 = cutS s b := rfl
theorem take_more {s : ByteArray} {f k : Nat} (hf : f ≤ k) (hk : k < s.size) : (s.data.toList.drop f).take (k - f) ++ [s[k]] = (s.data.toList.drop f).take (k + 1 - f) := by
  have e : (s.data.toList.drop f)[k - f]? = some s[k] := by
    rw [List.getElem?_drop, show f + (k - f) = k from by omega]
    have h2 : s.size = s.data.size := rfl
    rw [Array.getElem?_toList, Array.getElem?_eq_getElem (by omega)]
    rfl
  rw [show k + 1 - f = k - f + 1 from by omega, List.take_add_one, e]
  rfl
theorem drop_more {s : ByteArray} {k : Nat} (hk : k < s.size) : s.data.toList.drop k = s[k] :: s.data.toList.drop (k + 1) := by
  have hl : k < s.data.toList.length := by rw [Array.length_toList]; exact hk
  rw [List.drop_eq_getElem_cons hl]
  rfl
theorem mk_piece (s : ByteArray) (f k : Nat) (hf : f ≤ k) (hk : k ≤ s.size) : mkB ((s.data.toList.drop f).take (k - f)) = s.extract f k := by
  rw [Lib.extract_eq]; rfl
theorem cutF_miss {s : ByteArray} {b : UInt8} {f k : Nat} (hf : f ≤ k) (hk : k < s.size) (h : s[k] ≠ b) : cutF s b f (k + 1) = cutF s b f k := by
  unfold cutF
  rw [drop_more hk, cutL_miss h, take_more hf hk]
theorem cutF_hit {s : ByteArray} {b : UInt8} {f k : Nat} (hf : f ≤ k) (hk : k < s.size) (h : s[k] = b) : cutF s b f k = s.extract f k :: cutF s b (k + 1) (k + 1) := by
  unfold cutF
  rw [drop_more hk, h, cutL_hit, List.map_cons, mk_piece s f k hf (by omega)]
  simp
theorem cutF_end {s : ByteArray} {b : UInt8} {f : Nat} (hf : f ≤ s.size) : cutF s b f s.size = [s.extract f s.size] := by
  unfold cutF
  have e : s.data.toList.drop s.size = [] := List.drop_of_length_le (by rw [Array.length_toList]; exact Nat.le_refl _)
  rw [e]
  show [mkB _] = _
  rw [mk_piece s f s.size hf (Nat.le_refl _)]

/-! ### numbers -/
theorem decFrom_app (l r : List UInt8) : ∀ acc, Lib.decFrom acc (l ++ r) = (Lib.decFrom acc l).bind fun a => Lib.decFrom a r := by
  induction l with
  | nil => intro acc; rfl
  | cons x t ih =>
    intro acc
    simp only [List.cons_append, Lib.decFrom]
    cases Lib.digitVal x with
    | none => rfl
    | some d => exact ih _
theorem digit_of {d : Nat} (h : d < 10) : Lib.digitVal (UInt8.ofNat (48 + d)) = some d := by
  have e : (UInt8.ofNat (48 + d)).toNat = 48 + d := by simp; omega
  unfold Lib.digitVal
  rw [e, if_pos ⟨by omega, by omega⟩]
  congr 1
  omega
theorem dec_num (m : Nat) : Lib.decFrom 0 (Lib.decDigits m) = some m := by
  induction m using Nat.strongRecOn with
  | _ m ih =>
    by_cases h : m < 10
    · rw [Lib.decDigits, dif_pos h]
      simp only [Lib.decFrom, digit_of h]
      simp
    · rw [Lib.decDigits, dif_neg h, decFrom_app, ih (m / 10) (by omega)]
      simp only [Option.bind_some, Lib.decFrom, digit_of (show m % 10 < 10 by omega)]
      congr 1
      omega
theorem num_digits {m : Nat} : ∀ b ∈ Lib.decDigits m, 48 ≤ b.toNat ∧ b.toNat ≤ 57 := by
  intro b hb
  obtain ⟨i, hi⟩ := List.mem_iff_getElem?.1 hb
  obtain ⟨d, hd⟩ := Lib.digit_of_decFrom _ _ _ (dec_num m) i b hi
  have := Lib.digitVal_eq hd
  omega
theorem num_ne (m : Nat) : Lib.decDigits m ≠ [] := by
  rw [Lib.decDigits]
  split
  · simp
  · simp
theorem numS_data (m : Nat) : (numS m).data.toList = Lib.decDigits m := by simp [numS]
theorem numS_inj {m n : Nat} (h : numS m = numS n) : m = n := by
  have h1 := dec_num m
  rw [← numS_data, h, numS_data, dec_num n] at h1
  exact (Option.some.inj h1).symm
theorem numS_pos (m : Nat) : 0 < (numS m).size := by
  have := num_ne m
  have h2 : (numS m).size = (Lib.decDigits m).length := by simp [numS, ByteArray.size]
  rw [h2]
  exact List.length_pos_iff.2 this
theorem numS_six {m : Nat} (h : m ≤ 999999) : (numS m).size ≤ 6 := by
  have key : ∀ (k : Nat) {n : Nat}, n < 10 ^ (k + 1) → (numS n).size ≤ k + 1 := by
    intro k
    induction k with
    | zero => intro n h; rw [numS_small (by simpa using h)]; show 1 ≤ 1; omega
    | succ k ih =>
      intro n h
      by_cases h10 : n < 10
      · rw [numS_small h10]; show 1 ≤ _; omega
      · rw [numS_big h10, ByteArray.size_append]
        have := ih (n := n / 10) (by rw [Nat.pow_succ] at h; omega)
        show _ + 1 ≤ _
        omega
  exact key 5 (by omega)
theorem numS_not {m : Nat} {b : UInt8} (h : b.toNat < 48 ∨ 57 < b.toNat) : b ∉ (numS m).data.toList := by
  rw [numS_data]
  intro hb
  have := num_digits b hb
  omega
theorem atoi_num (m : Nat) : Lib.atoi (numS m).data.toList = some (m : Int) := by
  rw [numS_data]
  have h1 := dec_num m
  have h2 := num_digits (m := m)
  cases hl : Lib.decDigits m with
  | nil => exact absurd hl (num_ne m)
  | cons b r =>
    rw [hl] at h1 h2
    have hb := h2 b (by simp)
    have e1 : (b == 45) = false := by rw [beq_eq_false_iff_ne]; rintro rfl; simp at hb
    have e2 : (b == 43) = false := by rw [beq_eq_false_iff_ne]; rintro rfl; simp at hb
    show (if (b == 45) = true then _ else if (b == 43) = true then _ else _) = _
    rw [e1, e2, if_neg (by simp), if_neg (by simp)]
    simp [Lib.decNat, h1]

end Go.Proofs.YtcockjjilcapaaaGreatDoor
