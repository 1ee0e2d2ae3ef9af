/-
  YtndoapgalbljpaaDivA: clauses: which lists are valid, by contracts. (Printed by wip/gen/diva.py.)
-/
import Derived.Test.YtndoapgalbljpaaDivM
namespace Go.Proofs.Ytndoapgalbljpaa
open Go Go.RowKit Go.Sort
set_option linter.unusedVariables false

def StSz (s : ByteArray) : Prop := s.size ≤ maxLen
def ClSz (x : CL) : Prop := ∀ s ∈ x.ws, StSz s


set_option maxRecDepth 100000 in
theorem badWord_any (x : ByteArray) (w : World) (h : StSz x) : Calls Try.prog 76 #[.string x] w fun e w' => e = .returned (.bool (!wordB x)) ∧ Below w.heap.size w w' := by
  go_enter Try.func76, Try.ntmps76
  go_wp2_with fail
  refine (isWord_any x _ h).mono ?_
  rintro e w1 ⟨rfl, rfl⟩
  go_wp2
  go_ret
  exact ⟨rfl, Below.refl _ _⟩


set_option maxRecDepth 100000 in
set_option maxHeartbeats 1000000 in
theorem IndexBadW_any (A : Option Addr) (n c : Nat) (l : List ByteArray) (w : World) (ha : Rd stV 1 w A n c l) (hg : ∀ x ∈ l, StSz x) :
    Calls Try.prog 96 #[.slice A n c, .func (.func 76) #[] #[]] w fun e w' => (∃ r : Int, e = .returned (.int .i64 r) ∧ decide (0 ≤ r) = !l.all wordB) ∧ Below w.heap.size w w' := by
  have hm := ha.le
  have HL := Lib.hid ha.len
  go_enter Try.func96, Try.ntmps96
  go_wp2
  go_loopw [8] (fun i wr => ∃ k : Nat, k ≤ n ∧ i = .int .i64 k ∧ (∀ j x, j < k → l[j]? = some x → wordB x = true) ∧ Below w.heap.size w wr) (fun i _ => n - (intOf i).toNat)
  case atStart => exact ⟨0, Nat.zero_le _, rfl, fun j x hj => absurd hj (by omega), Below.refl _ _⟩
  case round =>
    obtain ⟨k, hk, rfl, hup, hbw⟩ := hrel
    have HU := Lib.hid hup
    clear hup
    by_cases hlt : k < n
    · obtain ⟨b1, o1, x, rfl, hs, c0⟩ := (ha.below hbw).st hlt
      have HS := Lib.hid hs
      have hgx := hg x (List.mem_of_getElem? hs)
      clear hs ha
      go_wp2_with fail
      refine (badWord_any x _ hgx).mono ?_
      rintro e w2 ⟨rfl, b2⟩
      have t2 := below_trans hbw b2
      cases h1 : wordB x
      · have E := Lib.hid (show l.all wordB = false from all_fails HS.out h1)
        go_wp2
        go_ret
        exact ⟨⟨_, rfl, by rw [E.out]; simp⟩, t2⟩
      · have HN : Hid (∀ j x, j < k + 1 → l[j]? = some x → wordB x = true) := fun j y hj hy => by
          by_cases e : j = k
          · subst e; rw [HS.out] at hy; injection hy with hy; rw [← hy]; exact h1
          · exact HU.out j y (by omega) hy
        go_wp2
        go_roundw
        case rel => exact ⟨k + 1, by omega, by go_num, HN.out, t2⟩
        case measure => simp [intOf]; omega
    · obtain rfl : k = n := by omega
      have E := Lib.hid (all_upto HL.out HU.out)
      clear ha
      go_wp2
      go_ret
      exact ⟨⟨_, rfl, by rw [E.out]; simp⟩, hbw⟩

set_option maxRecDepth 100000 in
theorem ContainsBadW_any (A : Option Addr) (n c : Nat) (l : List ByteArray) (w : World) (ha : Rd stV 1 w A n c l) (hg : ∀ x ∈ l, StSz x) :
    Calls Try.prog 75 #[.slice A n c, .func (.func 76) #[] #[]] w fun e w' => e = .returned (.bool (!l.all wordB)) ∧ Below w.heap.size w w' := by
  go_enter Try.func75, Try.ntmps75
  go_wp2_with fail
  refine (IndexBadW_any _ _ _ _ _ ha hg).mono ?_
  rintro e w2 ⟨⟨r, rfl, hr⟩, b2⟩
  have HR := Lib.hid hr
  clear hr
  go_wp2
  go_ret
  exact ⟨ret_bool HR.out, b2⟩


set_option maxRecDepth 100000 in
theorem areWords_any (A : Option Addr) (n c : Nat) (l : List ByteArray) (lo hi : Int) (w : World) (ha : Rd stV 1 w A n c l) (hg : ∀ x ∈ l, StSz x) :
    Calls Try.prog 53 #[.slice A n c, .int .i64 lo, .int .i64 hi] w fun e w' => e = .returned (.bool (inB l.length lo hi && l.all wordB)) ∧ Below w.heap.size w w' := by
  have hm := ha.le
  have HL := Lib.hid ha.len
  go_enter Try.func53, Try.ntmps53
  go_wp2_with fail
  refine (inside_any _ _ _ _).mono ?_
  rintro e w1 ⟨rfl, rfl⟩
  cases h1 : inB (n : Int) lo hi
  · have E := Lib.hid h1
    clear ha h1
    go_wp2
    go_ret
    exact ⟨ret_bool (by rw [HL.out, E.out]; rfl), Below.refl _ _⟩
  · have E := Lib.hid h1
    clear h1
    go_wp2_with fail
    refine (ContainsBadW_any _ _ _ _ _ ha hg).mono ?_
    rintro e w2 ⟨rfl, b2⟩
    clear ha
    go_wp2
    go_ret
    exact ⟨ret_bool (by rw [HL.out, E.out]; simp), b2⟩


set_option maxRecDepth 100000 in
set_option maxHeartbeats 1000000 in
theorem l9Words_any (A : Option Addr) (n c : Nat) (l : List ByteArray) (most : Int) (w : World) (ha : Rd stV 1 w A n c l) (hg : ∀ x ∈ l, StSz x) :
    Calls Try.prog 60 #[.slice A n c, .int .i64 most] w fun e w' => e = .returned (.bool (l.all wordB && decide ((l.length : Int) ≤ most))) ∧ Below w.heap.size w w' := by
  have hm := ha.le
  have HL := Lib.hid ha.len
  go_enter Try.func60, Try.ntmps60
  go_wp2
  go_loopw [5] (fun i wr => ∃ k : Nat, k ≤ n ∧ i = .int .i64 k ∧ (∀ j x, j < k → l[j]? = some x → wordB x = true) ∧ Below w.heap.size w wr) (fun i _ => n - (intOf i).toNat)
  case atStart => exact ⟨0, Nat.zero_le _, rfl, fun j x hj => absurd hj (by omega), Below.refl _ _⟩
  case round =>
    obtain ⟨k, hk, rfl, hup, hbw⟩ := hrel
    have HU := Lib.hid hup
    clear hup
    by_cases hlt : k < n
    · by_cases hmo : (k : Int) ≤ most
      · obtain ⟨b1, o1, x, rfl, hs, c0⟩ := (ha.below hbw).st hlt
        have HS := Lib.hid hs
        have hgx := hg x (List.mem_of_getElem? hs)
        clear hs ha
        go_wp2_with fail
        refine (l2Word_any x _ hgx).mono ?_
        rintro e w2 ⟨rfl, rfl⟩
        cases h1 : wordB x
        · have E := Lib.hid (show l.all wordB = false from all_fails HS.out h1)
          go_wp2
          go_ret
          exact ⟨ret_bool (by rw [E.out]; rfl), hbw⟩
        · have HN : Hid (∀ j y, j < k + 1 → l[j]? = some y → wordB y = true) := fun j y hj hy => by
            by_cases e : j = k
            · subst e; rw [HS.out] at hy; injection hy with hy; rw [← hy]; exact h1
            · exact HU.out j y (by omega) hy
          go_wp2
          go_roundw
          case rel => exact ⟨k + 1, by omega, by go_num, HN.out, hbw⟩
          case measure => simp [intOf]; omega
      · have E := Lib.hid (show (l.all wordB && decide ((l.length : Int) ≤ most)) = false by rw [HL.out, decide_eq_false (by omega), Bool.and_false])
        have hd : decide ((n : Int) ≤ most) = false := decide_eq_false (by omega)
        have hnm : ¬ (n : Int) ≤ most := by omega
        clear ha
        go_wp2
        go_ret
        exact ⟨ret_bool E.out.symm, hbw⟩
    · obtain rfl : k = n := by omega
      have E := Lib.hid (show (l.all wordB && decide ((l.length : Int) ≤ most)) = decide ((k : Int) ≤ most) by rw [all_upto HL.out HU.out, HL.out, Bool.true_and])
      clear ha
      go_wp2
      go_ret
      exact ⟨ret_bool (by rw [E.out]), hbw⟩


set_option maxRecDepth 100000 in
set_option maxHeartbeats 1000000 in
theorem AreClauses_any (A : Option Addr) (n c : Nat) (hs : List HC) (l : List CL) (w : World) (ha : RdC w A n c hs l) (hg : ∀ x ∈ l, ClSz x) :
    Calls Try.prog 23 #[.slice A n c] w fun e w' => e = .returned (.bool (clsB l)) ∧ Below w.heap.size w w' := by
  have hm := ha.le
  have HL := Lib.hid ha.len
  go_enter Try.func23, Try.ntmps23
  go_wp2
  go_loopw [7] (fun i wr => ∃ k : Nat, k ≤ n ∧ i = .int .i64 k ∧ (∀ j, j < k → clAt l j = true) ∧ Below w.heap.size w wr) (fun i _ => n - (intOf i).toNat)
  case atStart => exact ⟨0, Nat.zero_le _, rfl, fun j hj => absurd hj (by omega), Below.refl _ _⟩
  case round =>
    obtain ⟨k, hk, rfl, hup, hbw⟩ := hrel
    have HU := Lib.hid hup
    clear hup
    by_cases hlt : k < n
    · obtain ⟨b1, o1, h, x, rfl, hx, -, c0, c1, x0, x1⟩ := (ha.below hbw).at hlt
      have HX := Lib.hid hx
      have hgx := hg x (List.mem_of_getElem? hx)
      have q1 : (wr.alloc (.cells #[.slice h.wA h.wn h.wc, .slice h.nA h.nn h.nc] 57)).cell? ⟨wr.heap.size, 1, none⟩ = some (.slice h.nA h.nn h.nc) := cell_of_row _ _ 1 _ _ _ (heap_new rfl)
      have t1 : Below w.heap.size w (wr.alloc (.cells #[.slice h.wA h.wn h.wc, .slice h.nA h.nn h.nc] 57)) := below_trans hbw (below_alloc _)
      have L0 := Lib.hid x0.len
      clear hx ha
      go_wp2_with fail
      refine (areWords_any _ _ _ _ _ _ _ (x0.alloc _) hgx).mono ?_
      rintro e w2 ⟨rfl, b2⟩
      have t2 := below_trans t1 b2
      replace q1 := cell_below b2 q1
      have x1b := (x1.alloc (.cells #[.slice h.wA h.wn h.wc, .slice h.nA h.nn h.nc] 57)).below b2
      clear t1 b2
      cases h1 : (inB (x.ws.length : Int) 1 5 && x.ws.all wordB)
      · have C0 := Lib.hid (show clOK k x = false by unfold clOK; rw [h1]; rfl)
        have E := Lib.hid (cls_fails HX.out C0.out)
        go_wp2
        go_ret
        exact ⟨ret_bool E.out.symm, t2⟩
      · have C1 := Lib.hid h1
        clear h1
        go_wp2_with fail
        refine (ascending_any _ _ _ _ _ _ _ x1b).mono ?_
        rintro e w3 ⟨rfl, rfl⟩
        have t3 := t2
        cases h2 : risB x.ns 0 ((k : Int) - 1)
        · have C0 := Lib.hid (show clOK k x = false by unfold clOK; rw [h2, Bool.and_false])
          have E := Lib.hid (cls_fails HX.out C0.out)
          go_wp2
          go_ret
          exact ⟨ret_bool E.out.symm, t3⟩
        · have CO := Lib.hid (show clOK k x = true by unfold clOK; rw [C1.out, h2]; rfl)
          have HN : Hid (∀ j, j < k + 1 → clAt l j = true) := fun j hj => by
            by_cases e : j = k
            · subst e; rw [clAt_of HX.out]; exact CO.out
            · exact HU.out j (by omega)
          go_wp2
          go_roundw
          case rel => exact ⟨k + 1, by omega, by go_num, HN.out, t3⟩
          case measure => simp [intOf]; omega
    · obtain rfl : k = n := by omega
      have E := Lib.hid (show clsB l = decide ((k : Int) ≤ 8) by rw [cls_upto (by rw [HL.out]; exact HU.out), HL.out]; congr 1; simp; omega)
      clear ha
      go_wp2
      go_ret
      exact ⟨ret_bool E.out.symm, hbw⟩


set_option maxRecDepth 100000 in
set_option maxHeartbeats 1000000 in
theorem l19Good_any (A : Option Addr) (n c : Nat) (hs : List HC) (l : List CL) (w : World) (ha : RdC w A n c hs l) (hg : ∀ x ∈ l, ClSz x) :
    Calls Try.prog 31 #[.slice A n c] w fun e w' => e = .returned (.bool (clsB l)) ∧ Below w.heap.size w w' := by
  have hm := ha.le
  have HL := Lib.hid ha.len
  go_enter Try.func31, Try.ntmps31
  go_wp2
  go_loopw [3] (fun i wr => ∃ k : Nat, k ≤ n ∧ i = .int .i64 k ∧ (∀ j, j < k → clAt l j = true) ∧ Below w.heap.size w wr) (fun i _ => n - (intOf i).toNat)
  case atStart => exact ⟨0, Nat.zero_le _, rfl, fun j hj => absurd hj (by omega), Below.refl _ _⟩
  case round =>
    obtain ⟨k, hk, rfl, hup, hbw⟩ := hrel
    have HU := Lib.hid hup
    clear hup
    by_cases hlt : k < n
    · by_cases h8 : (k : Int) ≤ 8
      · obtain ⟨b1, o1, h, x, rfl, hx, -, c0, c1, x0, x1⟩ := (ha.below hbw).at hlt
        have HX := Lib.hid hx
        have hgx := hg x (List.mem_of_getElem? hx)
        have q1 : (wr.alloc (.cells #[.slice h.wA h.wn h.wc, .slice h.nA h.nn h.nc] 57)).cell? ⟨wr.heap.size, 1, none⟩ = some (.slice h.nA h.nn h.nc) := cell_of_row _ _ 1 _ _ _ (heap_new rfl)
        have t1 : Below w.heap.size w (wr.alloc (.cells #[.slice h.wA h.wn h.wc, .slice h.nA h.nn h.nc] 57)) := below_trans hbw (below_alloc _)
        have L0 := Lib.hid x0.len
        clear hx ha
        have q0 : (wr.alloc (.cells #[.slice h.wA h.wn h.wc, .slice h.nA h.nn h.nc] 57)).cell? ⟨wr.heap.size, 0, none⟩ = some (.slice h.wA h.wn h.wc) := cell_of_row _ _ 0 _ _ _ (heap_new rfl)
        have hwm := x0.le
        by_cases h0 : h.wn = 0
        · have C0 := Lib.hid (show clOK k x = false by unfold clOK; rw [inB_l (by have := L0.out; omega)]; rfl)
          have h0' : ((h.wn : Int) == 0) = true := by rw [h0]; rfl
          clear h0
          have E := Lib.hid (cls_fails HX.out C0.out)
          go_wp2
          go_ret
          exact ⟨ret_bool E.out.symm, t1⟩
        · have h0' : ((h.wn : Int) == 0) = false := by simp; omega
          go_wp2_with fail
          refine (l9Words_any _ _ _ _ _ _ (x0.alloc _) hgx).mono ?_
          rintro e w2 ⟨rfl, b2⟩
          have t2 := below_trans t1 b2
          replace q1 := cell_below b2 q1
          have x1b := (x1.alloc (.cells #[.slice h.wA h.wn h.wc, .slice h.nA h.nn h.nc] 57)).below b2
          clear t1 b2 q0
          have EQ := Lib.hid (show (inB (x.ws.length : Int) 1 5 && x.ws.all wordB) = (x.ws.all wordB && decide ((x.ws.length : Int) ≤ 5)) by
            have := L0.out
            by_cases h9 : (x.ws.length : Int) ≤ 5
            · rw [inB_t (by omega) h9, decide_eq_true h9, Bool.true_and, Bool.and_true]
            · rw [inB_r (by omega), decide_eq_false h9, Bool.and_false]; rfl)
          cases h1 : (x.ws.all wordB && decide ((x.ws.length : Int) ≤ 5))
          · have C0 := Lib.hid (show clOK k x = false by unfold clOK; rw [EQ.out, h1]; rfl)
            have E := Lib.hid (cls_fails HX.out C0.out)
            go_wp2
            go_ret
            exact ⟨ret_bool E.out.symm, t2⟩
          · have C1 := Lib.hid h1
            clear h1
            go_wp2_with fail
            refine (l1Rising_any _ _ _ _ _ _ _ x1b).mono ?_
            rintro e w3 ⟨rfl, b3⟩
            have t3 := below_trans t2 b3
            cases h2 : risB x.ns 0 ((k : Int) - 1)
            · have C0 := Lib.hid (show clOK k x = false by unfold clOK; rw [h2, Bool.and_false])
              have E := Lib.hid (cls_fails HX.out C0.out)
              go_wp2
              go_ret
              exact ⟨ret_bool E.out.symm, t3⟩
            · have CO := Lib.hid (show clOK k x = true by unfold clOK; rw [EQ.out, C1.out, h2]; rfl)
              have HN : Hid (∀ j, j < k + 1 → clAt l j = true) := fun j hj => by
                by_cases e : j = k
                · subst e; rw [clAt_of HX.out]; exact CO.out
                · exact HU.out j (by omega)
              go_wp2
              go_roundw
              case rel => exact ⟨k + 1, by omega, by go_num, HN.out, t3⟩
              case measure => simp [intOf]; omega
      · have E := Lib.hid (show clsB l = false from cls_many (by rw [HL.out]; omega))
        have hn8 : ¬ (n : Int) ≤ 8 := by omega
        clear ha
        go_wp2
        go_ret
        exact ⟨ret_bool (by rw [E.out]), hbw⟩
    · obtain rfl : k = n := by omega
      have E := Lib.hid (show clsB l = decide ((k : Int) ≤ 8) by rw [cls_upto (by rw [HL.out]; exact HU.out), HL.out]; congr 1; simp; omega)
      clear ha
      go_wp2
      go_ret
      exact ⟨ret_bool E.out.symm, hbw⟩


end Go.Proofs.Ytndoapgalbljpaa
