/-
  YtflmokdeekjjiaaMinC: minutes: IsComplete, both sides. (Printed by wip/gen/minc.py.)
-/
import Derived.Test.YtflmokdeekjjiaaMinB
import Derived.BigQuiet
namespace Go.Proofs.Ytflmokdeekjjiaa
open Go Go.RowKit Go.Sort
set_option linter.unusedVariables false

theorem Rd.drop {α : Type} {enc : α → List Value} {sz : Nat} {w : World} {b o n c : Nat} {l : List α} (h : Rd enc sz w (some ⟨b, o, none⟩) n c l) {k : Nat} (hk : k ≤ n) : Rd enc sz w (some ⟨b, o + k * sz, none⟩) (n - k) (c - k) (l.drop k) := by
  have h1 := h.cap
  have h2 := h.max
  refine ⟨by rw [List.length_drop, h.len], by omega, by omega, (fun e => by cases e), fun h0 => ?_⟩
  obtain ⟨b', o', e, hc⟩ := h.at_ (by omega)
  injection e with e
  injection e with e1 e2
  subst e1 e2
  refine ⟨b, o + k * sz, rfl, fun i x hx j u hu => ?_⟩
  rw [List.getElem?_drop] at hx
  have := hc (k + i) x hx j u hu
  rw [Nat.add_mul] at this
  rw [← this]
  congr 2
  omega
theorem Rd.take {α : Type} {enc : α → List Value} {sz : Nat} {w : World} {A : Option Addr} {n c : Nat} {l : List α} (h : Rd enc sz w A n c l) {k : Nat} (hk : k ≤ n) : Rd enc sz w A k c (l.take k) := by
  refine ⟨by rw [List.length_take, h.len]; omega, by have := h.cap; omega, h.max, h.nil0, fun h0 => ?_⟩
  obtain ⟨b, off, e, hc⟩ := h.at_ (by omega)
  refine ⟨b, off, e, fun i x hx j u hu => hc i x ?_ j u hu⟩
  have hi : i < (l.take k).length := (List.getElem?_eq_some_iff.1 hx).1
  rw [List.getElem?_take] at hx
  split at hx
  · exact hx
  · cases hx

def zE : EN := ⟨0, ⟨#[]⟩, ⟨#[]⟩, 0, 0, 0, false⟩
def firstE (l : List EN) : EN := l.getD 0 zE
def lastE (l : List EN) : EN := l.getD (l.length - 1) zE
def midOK (x : EN) : Bool := !(decide (x.kind = 1) || decide (x.kind = 6))
/-- What lies between the first and the last. -/
def midL (l : List EN) : List EN := (l.take (l.length - 1)).drop 1
def endsB (l : List EN) : Bool := decide (2 ≤ l.length) && (decide ((firstE l).kind = 1) && (decide ((lastE l).kind = 6) && ((firstE l).who.toList == (lastE l).who.toList)))
def compB (l : List EN) : Bool := minB l && (endsB l && (midL l).all midOK)
theorem compB_no {l : List EN} (h : endsB l = false) : compB l = false := by simp [compB, h]
theorem compB_min {l : List EN} (h : minB l = false) : compB l = false := by simp [compB, h]
theorem compB_mid {l : List EN} (h : endsB l = true) (h1 : minB l = true) : compB l = (midL l).all midOK := by simp [compB, h, h1]
theorem get_D {l : List EN} {i : Nat} {x : EN} (h : l[i]? = some x) : l.getD i zE = x := by rw [List.getD, h]; rfl
theorem mid_get {l : List EN} {n i : Nat} {x : EN} (hl : l.length = n) (h : (midL l)[i]? = some x) : l[i + 1]? = some x ∧ i + 1 < n - 1 := by
  subst hl
  unfold midL at h
  rw [List.getElem?_drop, List.getElem?_take] at h
  split at h
  · rename_i h1
    exact ⟨by rw [Nat.add_comm]; exact h, by omega⟩
  · cases h
theorem mid_at {l : List EN} {n k : Nat} {x : EN} (hl : l.length = n) (h1 : 1 ≤ k) (h2 : k < n - 1) (h : l[k]? = some x) : (midL l)[k - 1]? = some x := by
  subst hl
  unfold midL
  rw [List.getElem?_drop, List.getElem?_take, if_pos (by omega), show 1 + (k - 1) = k by omega]
  exact h

theorem endE_any (x : EN) (w : World) (h : EnSz x) : Calls Try.prog 43 #[.agg #[.int .i64 x.kind, .string x.who, .string x.mo, .int .i64 x.yes, .int .i64 x.no, .int .i64 x.ab, .bool x.pa]] w fun e w' => e = .returned (.bool (!midOK x)) ∧ Below w.heap.size w w' := by
  obtain ⟨kind, who, mo, yes, no, ab, pa⟩ := x
  go_enter Try.func43, Try.ntmps43
  go_wp2
  all_goals go_ret
  all_goals exact ⟨ret_bool (by rw [Bool.eq_iff_iff]; first | (simp [midOK]; done) | (simp_all [midOK]; done) | (simp [midOK]; omega)), below_alloc _⟩


set_option maxRecDepth 100000 in
set_option maxHeartbeats 1000000 in
theorem IndexMid_any (A : Option Addr) (n c : Nat) (l : List EN) (w : World) (ha : Rd enV 7 w A n c l) (hg : ∀ x ∈ l, EnSz x) :
    Calls Try.prog 58 #[.slice A n c, .func (.func 43) #[] #[]] w fun e w' => (∃ r : Int, e = .returned (.int .i64 r) ∧ decide (0 ≤ r) = !l.all midOK) ∧ Below w.heap.size w w' := by
  have hm := ha.le
  have HL := Lib.hid ha.len
  go_enter Try.func58, Try.ntmps58
  go_wp2
  go_loopw [8] (fun i wr => ∃ k : Nat, k ≤ n ∧ i = .int .i64 k ∧ (∀ j x, j < k → l[j]? = some x → midOK x = true) ∧ Below w.heap.size w wr) (fun i _ => n - (intOf i).toNat)
  case atStart => exact ⟨0, Nat.zero_le _, rfl, fun j x hj => absurd hj (by omega), Below.refl _ _⟩
  case round =>
    obtain ⟨k, hk, rfl, hup, hbw⟩ := hrel
    have HU := Lib.hid hup
    clear hup
    by_cases hlt : k < n
    · obtain ⟨b1, o1, x, rfl, hs, c0, c1, c2, c3, c4, c5, c6⟩ := (ha.below hbw).en hlt
      have HS := Lib.hid hs
      have hgx := (hg x (List.mem_of_getElem? hs))
      clear hs ha
      go_wp2_with fail
      refine (endE_any x _ hgx).mono ?_
      rintro e w2 ⟨rfl, b2⟩
      have t2 := below_trans hbw b2
      cases h1 : midOK x
      · have E := Lib.hid (show l.all midOK = false from all_fails HS.out h1)
        go_wp2
        go_ret
        exact ⟨⟨_, rfl, by rw [E.out]; simp⟩, t2⟩
      · have HN : Hid (∀ j x, j < k + 1 → l[j]? = some x → midOK x = true) := fun j y hj hy => by
          by_cases e : j = k
          · subst e; rw [HS.out] at hy; injection hy with hy; rw [← hy]; exact h1
          · exact HU.out j y (by omega) hy
        go_wp2
        go_roundw
        case rel => exact ⟨k + 1, by omega, by go_num, HN.out, t2⟩
        case measure => simp [intOf]; omega
    · obtain rfl : k = n := by omega
      have E := Lib.hid (all_upto HL.out HU.out)
      clear ha
      go_wp2
      go_ret
      exact ⟨⟨_, rfl, by rw [E.out]; simp⟩, hbw⟩

set_option maxRecDepth 100000 in
theorem ContainsMid_any (A : Option Addr) (n c : Nat) (l : List EN) (w : World) (ha : Rd enV 7 w A n c l) (hg : ∀ x ∈ l, EnSz x) :
    Calls Try.prog 42 #[.slice A n c, .func (.func 43) #[] #[]] w fun e w' => e = .returned (.bool (!l.all midOK)) ∧ Below w.heap.size w w' := by
  go_enter Try.func42, Try.ntmps42
  go_wp2_with fail
  refine (IndexMid_any _ _ _ _ _ ha hg).mono ?_
  rintro e w2 ⟨⟨r, rfl, hr⟩, b2⟩
  have HR := Lib.hid hr
  clear hr
  go_wp2
  go_ret
  exact ⟨ret_bool HR.out, b2⟩


set_option maxRecDepth 100000 in
set_option maxHeartbeats 2000000 in
theorem implComplete_any (A : Option Addr) (n c : Nat) (l : List EN) (w : World) (ha : Rd enV 7 w A n c l) (hg : ∀ x ∈ l, EnSz x) :
    Calls Try.prog 16 #[.slice A n c] w fun e w' => e = .returned (.tuple #[.bool (compB l), .bool (minB l)]) ∧ Below w.heap.size w w' := by
  have HL := Lib.hid ha.len
  have hcap := ha.cap
  have hmm := ha.le
  go_enter Try.func16, Try.ntmps16
  go_wp2_with fail
  refine (isMinutes_any _ _ _ _ _ ha hg).mono ?_
  rintro e w1 ⟨rfl, b1⟩
  cases h1 : minB l
  · have E := Lib.hid (compB_min h1)
    clear ha
    go_wp2
    go_ret2
    exact ⟨ret_bool_bool E.out.symm h1.symm, b1⟩
  have hn20 : n ≤ 20 := by rw [← ha.len]; exact min_len h1
  have H1 := Lib.hid h1
  clear h1
  by_cases hn : n < 2
  · have E := Lib.hid (compB_no (l := l) (by unfold endsB; rw [HL.out, decide_eq_false (by omega)]; rfl))
    have hd : decide ((n : Int) - 1 < 1) = true := decide_eq_true (by omega)
    clear ha
    go_wp2_with fail
    go_quiet (fail)
    go_wp2
    go_ret2
    exact ⟨ret_bool_bool E.out.symm H1.out.symm, below_drewN b1 _⟩
  have hnd : decide ((n : Int) - 1 < 1) = false := decide_eq_false (by omega)
  have har := ha.below b1
  obtain ⟨b, o, x, rfl, hx, c0, c1, -⟩ := har.en (i := 0) (by omega)
  obtain ⟨b2, o2, y, hA, hy, d0, d1, -⟩ := har.en (i := n - 1) (by omega)
  injection hA with hA
  injection hA with hA1 hA2
  subst hA1 hA2
  have HF := Lib.hid (show firstE l = x from get_D hx)
  have HY := Lib.hid (show lastE l = y from get_D (by rw [HL.out]; exact hy))
  simp only [Nat.zero_mul, Nat.add_zero] at c0 c1
  have HE := Lib.hid (show endsB l = (decide (x.kind = 1) && (decide (y.kind = 6) && (x.who.toList == y.who.toList))) by unfold endsB; rw [HL.out, HF.out, HY.out, decide_eq_true (show 2 ≤ n by omega)]; rfl)
  have HR := Lib.hid har
  have hn1 : (1 : Int) ≤ (n : Int) - 1 := by omega
  have hnw : IntKind.i64.wrap ((n : Int) - 1) = (n : Int) - 1 := IntWalk.i64_in _ (by omega)
  have hnt : ((n : Int) - 1).toNat = n - 1 := by omega
  have hnn : (0 : Int) ≤ (n : Int) - 1 := by omega
  have hnl : (n : Int) - 1 < (n : Int) := by omega
  have hnp : 0 < n := by omega
  clear hx hy ha har
  by_cases k1 : x.kind = 1
  rotate_left
  · have E := Lib.hid (compB_no (l := l) (by rw [HE.out, decide_eq_false k1]; rfl))
    have k1' : (x.kind != 1) = true := by simpa using k1
    go_wp2_with fail
    go_quiet (fail)
    go_wp2
    go_ret2
    exact ⟨ret_bool_bool E.out.symm H1.out.symm, below_drewN b1 _⟩
  have k1' : (x.kind != 1) = false := by simpa using k1
  by_cases k2 : y.kind = 6
  rotate_left
  · have E := Lib.hid (compB_no (l := l) (by rw [HE.out, decide_eq_false k2]; simp))
    have k2' : (y.kind != 6) = true := by simpa using k2
    go_wp2_with fail
    go_quiet (fail)
    go_wp2
    go_ret2
    exact ⟨ret_bool_bool E.out.symm H1.out.symm, below_drewN b1 _⟩
  have k2' : (y.kind != 6) = false := by simpa using k2
  cases k3 : (x.who.toList == y.who.toList)
  · have E := Lib.hid (compB_no (l := l) (by rw [HE.out, k3]; simp))
    go_wp2_with fail
    go_quiet (fail)
    go_wp2
    go_ret2
    exact ⟨ret_bool_bool E.out.symm H1.out.symm, below_drewN b1 _⟩
  have E := Lib.hid (compB_mid (l := l) (by rw [HE.out, decide_eq_true k1, decide_eq_true k2, k3]; rfl) H1.out)
  go_wp2_with fail
  go_quiet (fail)
  have b2 := below_drewN b1 nq
  have har := HR.out.below (below_drewN (Below.refl _ _) nq)
  clear c0 c1 d0 d1 k1 k2 k1' k2' k3
  generalize hgw : w1.drewN nq = w2 at *
  clear hgw b1
  have hmid := (har.take (k := n - 1) (by omega)).drop (k := 1) (by omega)
  have hmd : (l.take (n - 1)).drop 1 = midL l := by unfold midL; rw [HL.out]
  rw [hmd] at hmid
  simp only [Nat.one_mul] at hmid
  have hgm : ∀ x ∈ midL l, EnSz x := fun z hz => hg z (List.mem_of_mem_take (List.mem_of_mem_drop hz))
  clear har hg
  go_wp2_with fail
  refine (ContainsMid_any _ _ _ _ _ hmid hgm).mono ?_
  rintro e w3 ⟨rfl, b3⟩
  go_wp2
  go_ret2
  exact ⟨ret_bool_bool (by simp [E.out]) H1.out.symm, below_trans b2 b3⟩


set_option maxRecDepth 100000 in
set_option maxHeartbeats 2000000 in
theorem specComplete_any (A : Option Addr) (n c : Nat) (l : List EN) (w : World) (ha : Rd enV 7 w A n c l) (hg : ∀ x ∈ l, EnSz x) :
    Calls Try.prog 14 #[.slice A n c] w fun e w' => e = .returned (.tuple #[.bool (compB l), .bool (minB l)]) ∧ Below w.heap.size w w' := by
  have HL := Lib.hid ha.len
  have hcap := ha.cap
  have hmm := ha.le
  go_enter Try.func14, Try.ntmps14
  go_wp2_with fail
  refine (l21Good_any _ _ _ _ _ ha hg).mono ?_
  rintro e w1 ⟨rfl, b1⟩
  cases h1 : minB l
  · have E := Lib.hid (compB_min h1)
    clear ha
    go_wp2
    go_ret2
    exact ⟨ret_bool_bool E.out.symm h1.symm, b1⟩
  have hn20 : n ≤ 20 := by rw [← ha.len]; exact min_len h1
  have H1 := Lib.hid h1
  clear h1
  by_cases hn : n < 2
  · have E := Lib.hid (compB_no (l := l) (by unfold endsB; rw [HL.out, decide_eq_false (by omega)]; rfl))
    have hd : decide ((n : Int) < 2) = true := decide_eq_true (by omega)
    clear ha
    go_wp2_with fail
    go_quiet (fail)
    go_wp2
    go_ret2
    exact ⟨ret_bool_bool E.out.symm H1.out.symm, below_drewN b1 _⟩
  have hnd : decide ((n : Int) < 2) = false := decide_eq_false (by omega)
  have har := ha.below b1
  obtain ⟨b, o, x, rfl, hx, c0, c1, -⟩ := har.en (i := 0) (by omega)
  obtain ⟨b2, o2, y, hA, hy, d0, d1, -⟩ := har.en (i := n - 1) (by omega)
  injection hA with hA
  injection hA with hA1 hA2
  subst hA1 hA2
  have HF := Lib.hid (show firstE l = x from get_D hx)
  have HY := Lib.hid (show lastE l = y from get_D (by rw [HL.out]; exact hy))
  simp only [Nat.zero_mul, Nat.add_zero] at c0 c1
  have HE := Lib.hid (show endsB l = (decide (x.kind = 1) && (decide (y.kind = 6) && (x.who.toList == y.who.toList))) by unfold endsB; rw [HL.out, HF.out, HY.out, decide_eq_true (show 2 ≤ n by omega)]; rfl)
  have HR := Lib.hid har
  have hn1 : (1 : Int) ≤ (n : Int) - 1 := by omega
  have hnw : IntKind.i64.wrap ((n : Int) - 1) = (n : Int) - 1 := IntWalk.i64_in _ (by omega)
  have hnt : ((n : Int) - 1).toNat = n - 1 := by omega
  have hnn : (0 : Int) ≤ (n : Int) - 1 := by omega
  have hnl : (n : Int) - 1 < (n : Int) := by omega
  have hnp : 0 < n := by omega
  clear hx hy ha har
  by_cases k1 : x.kind = 1
  rotate_left
  · have E := Lib.hid (compB_no (l := l) (by rw [HE.out, decide_eq_false k1]; rfl))
    have k1' : (x.kind != 1) = true := by simpa using k1
    go_wp2_with fail
    go_quiet (fail)
    go_wp2
    go_ret2
    exact ⟨ret_bool_bool E.out.symm H1.out.symm, below_drewN b1 _⟩
  have k1' : (x.kind != 1) = false := by simpa using k1
  by_cases k2 : y.kind = 6
  rotate_left
  · have E := Lib.hid (compB_no (l := l) (by rw [HE.out, decide_eq_false k2]; simp))
    have k2' : (y.kind != 6) = true := by simpa using k2
    go_wp2_with fail
    go_quiet (fail)
    go_wp2
    go_ret2
    exact ⟨ret_bool_bool E.out.symm H1.out.symm, below_drewN b1 _⟩
  have k2' : (y.kind != 6) = false := by simpa using k2
  cases k3 : (x.who.toList == y.who.toList)
  · have E := Lib.hid (compB_no (l := l) (by rw [HE.out, k3]; simp))
    go_wp2_with fail
    go_quiet (fail)
    go_wp2
    go_ret2
    exact ⟨ret_bool_bool E.out.symm H1.out.symm, below_drewN b1 _⟩
  have E := Lib.hid (compB_mid (l := l) (by rw [HE.out, decide_eq_true k1, decide_eq_true k2, k3]; rfl) H1.out)
  go_wp2_with fail
  go_quiet (fail)
  have b2 := below_drewN b1 nq
  have har := HR.out.below (below_drewN (Below.refl _ _) nq)
  clear c0 c1 d0 d1 k1 k2 k1' k2' k3
  generalize hgw : w1.drewN nq = w2 at *
  clear hgw b1
  clear hg
  go_wp2
  go_loop [5] (fun i => ∃ k : Nat, 1 ≤ k ∧ k ≤ n - 1 ∧ i = .int .i64 k ∧ ∀ j x, 1 ≤ j → j < k → l[j]? = some x → midOK x = true) (fun i => n - (intOf i).toNat)
  case atStart => exact ⟨1, by omega, by omega, rfl, fun j x h1 h2 => absurd h2 (by omega)⟩
  case round =>
    obtain ⟨k, hk1, hk, rfl, hup⟩ := hrel
    have HU := Lib.hid hup
    clear hup
    by_cases hlt : k < n - 1
    · obtain ⟨b3, o3, z, hA, hz, e0, -⟩ := har.en (i := k) (by omega)
      injection hA with hA
      injection hA with hA1 hA2
      subst hA1 hA2
      have HZ := Lib.hid hz
      clear hz har
      have hlt' : (k : Int) < (n : Int) - 1 := by omega
      cases h5 : midOK z
      · have E2 := Lib.hid (show compB l = false by rw [E.out]; exact all_fails (mid_at HL.out hk1 hlt HZ.out) h5)
        by_cases h6 : z.kind = 1
        · go_wp2
          go_ret2
          exact ⟨ret_bool_bool E2.out.symm H1.out.symm, b2⟩
        · have h7 : z.kind = 6 := by simp [midOK] at h5; exact h5 h6
          go_wp2
          go_ret2
          exact ⟨ret_bool_bool E2.out.symm H1.out.symm, b2⟩
      · have h6 : ¬(z.kind = 1) := by simp [midOK] at h5; exact h5.1
        have h7 : ¬(z.kind = 6) := by simp [midOK] at h5; exact h5.2
        have HN : Hid (∀ j x, 1 ≤ j → j < k + 1 → l[j]? = some x → midOK x = true) := fun j y h1 hj hy => by
          by_cases e : j = k
          · subst e; rw [HZ.out] at hy; injection hy with hy; rw [← hy]; exact h5
          · exact HU.out j y h1 (by omega) hy
        have h6' : (z.kind == 1) = false := by simpa using h6
        have h7' : (z.kind == 6) = false := by simpa using h7
        clear h5
        go_wp2
        go_round
        case rel => exact ⟨k + 1, by omega, by omega, by go_num, HN.out⟩
        case measure => simp [intOf]; omega
    · obtain rfl : k = n - 1 := by omega
      have hlt' : ¬(((n - 1 : Nat) : Int) < (n : Int) - 1) := by omega
      have E2 := Lib.hid (show compB l = true by
        rw [E.out, List.all_eq_true]
        intro z hz
        obtain ⟨i, hi⟩ := List.mem_iff_getElem?.1 hz
        have := mid_get HL.out hi
        exact HU.out (i + 1) z (by omega) this.2 this.1)
      clear har
      go_wp2
      go_ret2
      exact ⟨ret_bool_bool E2.out.symm H1.out.symm, b2⟩


end Go.Proofs.Ytflmokdeekjjiaa
