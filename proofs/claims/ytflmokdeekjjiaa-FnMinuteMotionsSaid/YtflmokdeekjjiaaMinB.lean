/-
  YtflmokdeekjjiaaMinB: minutes: lists of entries; EntriesOf and AdoptedMotions, both sides. (Printed by wip/gen/minb.py.)
-/
import Derived.Test.YtflmokdeekjjiaaMinA
import Derived.Test.YtflmokdeekjjiaaColl
import Derived.Deep.DeepCutAuto
namespace Go.Proofs.Ytflmokdeekjjiaa
open Go Go.RowKit Go.Sort
set_option linter.unusedVariables false

/-- Entries whose texts are not too long for the model. -/
def EnSz (x : EN) : Prop := x.who.size ≤ maxLen ∧ x.mo.size ≤ maxLen
/-- A list that is minutes. -/
def minB (l : List EN) : Bool := l.all enOK && decide (l.length ≤ 20)
theorem min_len {l : List EN} (h : minB l = true) : l.length ≤ 20 := by unfold minB at h; rw [Bool.and_eq_true] at h; exact of_decide_eq_true h.2


set_option maxRecDepth 100000 in
set_option maxHeartbeats 1000000 in
theorem badEntry_any (x : EN) (w : World) (h : EnSz x) : Calls Try.prog 57 #[.agg #[.int .i64 x.kind, .string x.who, .string x.mo, .int .i64 x.yes, .int .i64 x.no, .int .i64 x.ab, .bool x.pa]] w fun e w' => e = .returned (.bool (!enOK x)) ∧ Below w.heap.size w w' := by
  go_enter Try.func57, Try.ntmps57
  go_wp2_with fail
  refine (implEntry_any x _ h.1 h.2).mono ?_
  rintro e w1 ⟨rfl, b1⟩
  go_wp2
  go_ret
  exact ⟨rfl, below_trans (below_alloc _) b1⟩


set_option maxRecDepth 100000 in
set_option maxHeartbeats 1000000 in
theorem IndexBad_any (A : Option Addr) (n c : Nat) (l : List EN) (w : World) (ha : Rd enV 7 w A n c l) (hg : ∀ x ∈ l, EnSz x) :
    Calls Try.prog 58 #[.slice A n c, .func (.func 57) #[] #[]] w fun e w' => (∃ r : Int, e = .returned (.int .i64 r) ∧ decide (0 ≤ r) = !l.all enOK) ∧ Below w.heap.size w w' := by
  have hm := ha.le
  have HL := Lib.hid ha.len
  go_enter Try.func58, Try.ntmps58
  go_wp2
  go_loopw [8] (fun i wr => ∃ k : Nat, k ≤ n ∧ i = .int .i64 k ∧ (∀ j x, j < k → l[j]? = some x → enOK x = true) ∧ Below w.heap.size w wr) (fun i _ => n - (intOf i).toNat)
  case atStart => exact ⟨0, Nat.zero_le _, rfl, fun j x hj => absurd hj (by omega), Below.refl _ _⟩
  case round =>
    obtain ⟨k, hk, rfl, hup, hbw⟩ := hrel
    have HU := Lib.hid hup
    clear hup
    by_cases hlt : k < n
    · obtain ⟨b1, o1, x, rfl, hs, c0, c1, c2, c3, c4, c5, c6⟩ := (ha.below hbw).en hlt
      have HS := Lib.hid hs
      have hgx := (hg x (List.mem_of_getElem? hs))
      clear hs ha
      go_wp2_with fail
      refine (badEntry_any x _ hgx).mono ?_
      rintro e w2 ⟨rfl, b2⟩
      have t2 := below_trans hbw b2
      cases h1 : enOK x
      · have E := Lib.hid (show l.all enOK = false from all_fails HS.out h1)
        go_wp2
        go_ret
        exact ⟨⟨_, rfl, by rw [E.out]; simp⟩, t2⟩
      · have HN : Hid (∀ j x, j < k + 1 → l[j]? = some x → enOK x = true) := fun j y hj hy => by
          by_cases e : j = k
          · subst e; rw [HS.out] at hy; injection hy with hy; rw [← hy]; exact h1
          · exact HU.out j y (by omega) hy
        go_wp2
        go_roundw
        case rel => exact ⟨k + 1, by omega, by go_num, HN.out, t2⟩
        case measure => simp [intOf]; omega
    · obtain rfl : k = n := by omega
      have E := Lib.hid (all_upto HL.out HU.out)
      clear ha
      go_wp2
      go_ret
      exact ⟨⟨_, rfl, by rw [E.out]; simp⟩, hbw⟩

set_option maxRecDepth 100000 in
theorem ContainsBad_any (A : Option Addr) (n c : Nat) (l : List EN) (w : World) (ha : Rd enV 7 w A n c l) (hg : ∀ x ∈ l, EnSz x) :
    Calls Try.prog 42 #[.slice A n c, .func (.func 57) #[] #[]] w fun e w' => e = .returned (.bool (!l.all enOK)) ∧ Below w.heap.size w w' := by
  go_enter Try.func42, Try.ntmps42
  go_wp2_with fail
  refine (IndexBad_any _ _ _ _ _ ha hg).mono ?_
  rintro e w2 ⟨⟨r, rfl, hr⟩, b2⟩
  have HR := Lib.hid hr
  clear hr
  go_wp2
  go_ret
  exact ⟨ret_bool HR.out, b2⟩


set_option maxRecDepth 100000 in
theorem isMinutes_any (A : Option Addr) (n c : Nat) (l : List EN) (w : World) (ha : Rd enV 7 w A n c l) (hg : ∀ x ∈ l, EnSz x) :
    Calls Try.prog 41 #[.slice A n c] w fun e w' => e = .returned (.bool (minB l)) ∧ Below w.heap.size w w' := by
  have hm := ha.le
  by_cases hn : (n : Int) ≤ 20
  · have E := Lib.hid (show (!!l.all enOK) = minB l by simp [minB, ha.len]; intro; omega)
    go_enter Try.func41, Try.ntmps41
    go_wp2_with fail
    refine (ContainsBad_any _ _ _ _ _ ha hg).mono ?_
    rintro e w2 ⟨rfl, b2⟩
    go_wp2
    go_ret
    exact ⟨ret_bool (by simpa using E.out), b2⟩
  · have E := Lib.hid (show minB l = false by simp [minB, ha.len]; intro; omega)
    clear ha
    go_enter Try.func41, Try.ntmps41
    go_wp2
    go_ret
    exact ⟨ret_bool E.out.symm, Below.refl _ _⟩

set_option maxRecDepth 100000 in
set_option maxHeartbeats 1000000 in
theorem l21Good_any (A : Option Addr) (n c : Nat) (l : List EN) (w : World) (ha : Rd enV 7 w A n c l) (hg : ∀ x ∈ l, EnSz x) :
    Calls Try.prog 40 #[.slice A n c] w fun e w' => e = .returned (.bool (minB l)) ∧ Below w.heap.size w w' := by
  have hm := ha.le
  have HL := Lib.hid ha.len
  go_enter Try.func40, Try.ntmps40
  go_wp2
  go_loopw [3] (fun i wr => ∃ k : Nat, k ≤ n ∧ i = .int .i64 k ∧ (∀ j x, j < k → l[j]? = some x → enOK x = true) ∧ Below w.heap.size w wr) (fun i _ => n - (intOf i).toNat)
  case atStart => exact ⟨0, Nat.zero_le _, rfl, fun j x hj => absurd hj (by omega), Below.refl _ _⟩
  case round =>
    obtain ⟨k, hk, rfl, hup, hbw⟩ := hrel
    have HU := Lib.hid hup
    clear hup
    by_cases hlt : k < n
    · obtain ⟨b1, o1, x, rfl, hs, c0, c1, c2, c3, c4, c5, c6⟩ := (ha.below hbw).en hlt
      have HS := Lib.hid hs
      have hgx := hg x (List.mem_of_getElem? hs)
      clear hs ha
      go_wp2_with fail
      refine (l21One_any x _ hgx.1 hgx.2).mono ?_
      rintro e w2 ⟨rfl, b2⟩
      have t2 := below_trans hbw b2
      cases h1 : enOK x
      · have E := Lib.hid (show minB l = false by unfold minB; rw [all_fails HS.out h1]; rfl)
        go_wp2
        go_ret
        exact ⟨ret_bool E.out.symm, t2⟩
      · have HN : Hid (∀ j x, j < k + 1 → l[j]? = some x → enOK x = true) := fun j y hj hy => by
          by_cases e : j = k
          · subst e; rw [HS.out] at hy; injection hy with hy; rw [← hy]; exact h1
          · exact HU.out j y (by omega) hy
        go_wp2
        go_roundw
        case rel => exact ⟨k + 1, by omega, by go_num, HN.out, t2⟩
        case measure => simp [intOf]; omega
    · obtain rfl : k = n := by omega
      have E := Lib.hid (show minB l = decide ((k : Int) ≤ 20) by unfold minB; rw [all_upto HL.out HU.out, HL.out]; simp; omega)
      clear ha
      go_wp2
      go_ret
      exact ⟨ret_bool E.out.symm, hbw⟩

theorem specEntry_any (x : EN) (w : World) (h : EnSz x) : Calls Try.prog 10 #[.agg #[.int .i64 x.kind, .string x.who, .string x.mo, .int .i64 x.yes, .int .i64 x.no, .int .i64 x.ab, .bool x.pa]] w fun e w' => e = .returned (.bool (enOK x)) ∧ Below w.heap.size w w' := by
  go_enter Try.func10, Try.ntmps10
  go_wp2_with fail
  refine (l21One_any x _ h.1 h.2).mono ?_
  rintro e w1 ⟨rfl, b1⟩
  go_wp2
  go_ret
  exact ⟨rfl, below_trans (below_alloc _) b1⟩


theorem Try.infoSt' : (Try.prog.info? 9).map (fun i => (i.zero, i.size, i.bytes)) = some (some (.string ByteArray.empty), 1, 16) := by kernel_rfl
theorem Try.infoIn' : (Try.prog.info? 3).map (fun i => (i.zero, i.size, i.bytes)) = some (some (.int .i64 0), 1, 8) := by kernel_rfl
/-- The places of a person's entries. -/
def entF (who : ByteArray) (i : Nat) (x : EN) : Option Int := if x.who.toList == who.toList then some (i : Int) else none
def entG (l : List EN) (who : ByteArray) : Bool := minB l && wordB who
def entL (l : List EN) (who : ByteArray) : List Int := if entG l who then fm (entF who) l l.length else []
theorem entL_no {l : List EN} {who : ByteArray} (h : entG l who = false) : entL l who = [] := by simp [entL, h]
theorem entL_yes {l : List EN} {who : ByteArray} (h : entG l who = true) : entL l who = fm (entF who) l l.length := by simp [entL, h]
theorem entL_len (l : List EN) (who : ByteArray) : (entL l who).length ≤ l.length := by unfold entL; split; exact fm_len _ _ _; simp
/-- The motions that were adopted. -/
def adoF (_ : Nat) (x : EN) : Option ByteArray := if x.kind = 4 ∧ x.pa = true then some x.mo else none
def adoL (l : List EN) : List ByteArray := if minB l then fm adoF l l.length else []
theorem adoL_no {l : List EN} (h : minB l = false) : adoL l = [] := by simp [adoL, h]
theorem adoL_yes {l : List EN} (h : minB l = true) : adoL l = fm adoF l l.length := by simp [adoL, h]
theorem adoL_len (l : List EN) : (adoL l).length ≤ l.length := by unfold adoL; split; exact fm_len _ _ _; simp


set_option maxRecDepth 100000 in
set_option maxHeartbeats 2000000 in
theorem implEntriesOf_any (A : Option Addr) (n c : Nat) (l : List EN) (who : ByteArray) (w : World) (ha : Rd enV 7 w A n c l) (hg : ∀ x ∈ l, EnSz x) (hw : who.size ≤ maxLen) :
    Calls Try.prog 25 #[.slice A n c, .string who] w fun e w' => (∃ B q d, e = .returned (.tuple #[.slice B q d, .bool (entG l who)]) ∧ Own inV 1 w' w.heap.size 3 B q d (entL l who)) ∧ Below w.heap.size w w' := by
  obtain ⟨i0, hi, hz0, hz1, hz2⟩ := info_parts Try.infoIn'
  have HL := Lib.hid ha.len
  have hmm := ha.le
  go_enter Try.func25, Try.ntmps25
  go_wp2_with fail
  refine (isMinutes_any _ _ _ _ _ ha hg).mono ?_
  rintro e w1 ⟨rfl, b1⟩
  cases h1 : minB l
  · have E := Lib.hid (show (entG l who) = false by unfold entG; rw [h1]; rfl)
    clear ha
    go_wp2
    go_ret2
    exact ⟨⟨_, _, _, ret_sl_bool E.out.symm, by rw [entL_no E.out]; exact Own.nil _ _ _⟩, b1⟩
  have hn20 : n ≤ 20 := by rw [← ha.len]; exact min_len h1
  have H1 := Lib.hid h1
  go_wp2_with fail
  refine (isWord_any _ _ hw).mono ?_
  rintro e w2 ⟨rfl, hw2⟩
  replace hw2 := hw2.symm
  subst hw2
  cases h2 : wordB who
  · have E := Lib.hid (show (entG l who) = false by unfold entG; rw [h1, h2]; rfl)
    clear ha
    go_wp2
    go_ret2
    exact ⟨⟨_, _, _, ret_sl_bool E.out.symm, by rw [entL_no E.out]; exact Own.nil _ _ _⟩, b1⟩
  have HG := Lib.hid (show (entG l who) = true by unfold entG; rw [h1, h2]; rfl)
  clear h1
  have oe := Own.empty inV 1 w1 3
  go_wp2
  go_loopw [6, 20] (fun v i wr => ∃ k : Nat, k ≤ n ∧ i = .int .i64 k ∧ (∃ B q d, v = .slice B q d ∧ q ≤ k ∧ Own inV 1 wr w1.heap.size 3 B q d (fm (entF who) l k)) ∧ Below w1.heap.size w1 wr) (fun _ i _ => n - (intOf i).toNat)
  case atStart => exact ⟨0, Nat.zero_le _, rfl, ⟨_, 0, 0, rfl, Nat.le_refl _, oe⟩, below_alloc _⟩
  case round =>
    clear oe
    obtain ⟨k, hk, rfl, ⟨B, q, d, rfl, hq, ho⟩, hbw⟩ := hrel
    by_cases hlt : k < n
    · obtain ⟨b3, o3, x, rfl, hs, c0, c1, c2, c3, c4, c5, c6⟩ := (ha.below (below_trans b1 hbw)).en hlt
      have HS := Lib.hid hs
      have hgx := hg x (List.mem_of_getElem? hs)
      clear hs ha
      cases h5 : (x.who.toList == who.toList)
      · have E := Lib.hid (fm_no (f := (entF who)) HS.out (show _ = none by unfold entF; rw [h5]; rfl))
        go_wp2
        go_roundw
        case rel => exact ⟨k + 1, by omega, by go_num, ⟨B, q, d, rfl, by omega, by rw [E.out]; exact (ho.alloc _)⟩, (below_trans hbw (below_alloc _))⟩
        case measure => simp [intOf]; omega
      
      · have E := Lib.hid (fm_yes (f := (entF who)) HS.out (show _ = some (k : Int) by unfold entF; rw [h5]; rfl))
        go_wp2_with (at_builtin; refine wpList_push rfl _ _ _ rfl w1.heap.size 3 i0 (.int .i64 0) 1 8 Try.underlying47 hi hz0 hz1 hz2 rfl (by omega) inV inV_len one_int B q d _ rfl (ho.alloc _) (k : Int) _ rfl _ rfl (by first | rfl | simp) (by simp only [maxLen]; omega) (by omega) (Nat.le_trans hbw.size (below_alloc _).size) ?_; intro B3 d3 w3 ho3 hg3)
        go_roundw
        case rel => exact ⟨k + 1, by omega, by go_num, ⟨B3, q + 1, d3, rfl, by omega, by rw [E.out]; exact ho3⟩, below_push (below_trans hbw (below_alloc _)) (ho.alloc _) hg3 (Nat.le_refl _)⟩
        case measure => simp [intOf]; omega
    · obtain rfl : k = n := by omega
      have E := Lib.hid (show fm (entF who) l k = entL l who by rw [entL_yes HG.out, HL.out])
      clear ha
      go_wp2
      go_ret2
      exact ⟨⟨_, _, _, ret_sl_bool HG.out.symm, by rw [← E.out]; exact ho.base_le b1.size⟩, below_trans b1 hbw⟩


set_option maxRecDepth 100000 in
set_option maxHeartbeats 2000000 in
theorem implAdopted_any (A : Option Addr) (n c : Nat) (l : List EN) (w : World) (ha : Rd enV 7 w A n c l) (hg : ∀ x ∈ l, EnSz x) :
    Calls Try.prog 19 #[.slice A n c] w fun e w' => (∃ B q d, e = .returned (.tuple #[.slice B q d, .bool (minB l)]) ∧ Own stV 1 w' w.heap.size 9 B q d (adoL l)) ∧ Below w.heap.size w w' := by
  obtain ⟨i0, hi, hz0, hz1, hz2⟩ := info_parts Try.infoSt'
  have HL := Lib.hid ha.len
  have hmm := ha.le
  go_enter Try.func19, Try.ntmps19
  go_wp2_with fail
  refine (isMinutes_any _ _ _ _ _ ha hg).mono ?_
  rintro e w1 ⟨rfl, b1⟩
  cases h1 : minB l
  · have E := Lib.hid (show (minB l) = false by exact h1)
    clear ha
    go_wp2
    go_ret2
    exact ⟨⟨_, _, _, ret_sl_bool E.out.symm, by rw [adoL_no E.out]; exact Own.nil _ _ _⟩, b1⟩
  have hn20 : n ≤ 20 := by rw [← ha.len]; exact min_len h1
  have H1 := Lib.hid h1
  have HG := Lib.hid (show (minB l) = true from h1)
  clear h1
  have oe := Own.empty stV 1 w1 9
  go_wp2
  go_loopw [4, 13] (fun v i wr => ∃ k : Nat, k ≤ n ∧ i = .int .i64 k ∧ (∃ B q d, v = .slice B q d ∧ q ≤ k ∧ Own stV 1 wr w1.heap.size 9 B q d (fm adoF l k)) ∧ Below w1.heap.size w1 wr) (fun _ i _ => n - (intOf i).toNat)
  case atStart => exact ⟨0, Nat.zero_le _, rfl, ⟨_, 0, 0, rfl, Nat.le_refl _, oe⟩, below_alloc _⟩
  case round =>
    clear oe
    obtain ⟨k, hk, rfl, ⟨B, q, d, rfl, hq, ho⟩, hbw⟩ := hrel
    by_cases hlt : k < n
    · obtain ⟨b3, o3, x, rfl, hs, c0, c1, c2, c3, c4, c5, c6⟩ := (ha.below (below_trans b1 hbw)).en hlt
      have HS := Lib.hid hs
      have hgx := hg x (List.mem_of_getElem? hs)
      clear hs ha
      by_cases h5 : x.kind = 4
      rotate_left
      · have E := Lib.hid (fm_no (f := adoF) HS.out (show _ = none by unfold adoF; rw [if_neg (fun h => h5 h.1)]))
        go_wp2
        go_roundw
        case rel => exact ⟨k + 1, by omega, by go_num, ⟨B, q, d, rfl, by omega, by rw [E.out]; exact (ho.alloc _)⟩, (below_trans hbw (below_alloc _))⟩
        case measure => simp [intOf]; omega
      cases h6 : x.pa
      · have E := Lib.hid (fm_no (f := adoF) HS.out (show _ = none by unfold adoF; rw [if_neg (fun h => by rw [h6] at h; cases h.2)]))
        go_wp2
        go_roundw
        case rel => exact ⟨k + 1, by omega, by go_num, ⟨B, q, d, rfl, by omega, by rw [E.out]; exact (ho.alloc _)⟩, (below_trans hbw (below_alloc _))⟩
        case measure => simp [intOf]; omega
      
      · have E := Lib.hid (fm_yes (f := adoF) HS.out (show _ = some x.mo by unfold adoF; rw [if_pos ⟨h5, h6⟩]))
        go_wp2_with (at_builtin; refine wpList_push rfl _ _ _ rfl w1.heap.size 9 i0 (.string ByteArray.empty) 1 16 Try.underlying41 hi hz0 hz1 hz2 rfl (by omega) stV stV_len one_str B q d _ rfl (ho.alloc _) x.mo _ rfl _ rfl (by first | rfl | simp) (by simp only [maxLen]; omega) (by omega) (Nat.le_trans hbw.size (below_alloc _).size) ?_; intro B3 d3 w3 ho3 hg3)
        go_roundw
        case rel => exact ⟨k + 1, by omega, by go_num, ⟨B3, q + 1, d3, rfl, by omega, by rw [E.out]; exact ho3⟩, below_push (below_trans hbw (below_alloc _)) (ho.alloc _) hg3 (Nat.le_refl _)⟩
        case measure => simp [intOf]; omega
    · obtain rfl : k = n := by omega
      have E := Lib.hid (show fm adoF l k = adoL l by rw [adoL_yes HG.out, HL.out])
      clear ha
      go_wp2
      go_ret2
      exact ⟨⟨_, _, _, ret_sl_bool HG.out.symm, by rw [← E.out]; exact ho.base_le b1.size⟩, below_trans b1 hbw⟩


set_option maxRecDepth 100000 in
set_option maxHeartbeats 2000000 in
theorem specEntriesOf_any (A : Option Addr) (n c : Nat) (l : List EN) (who : ByteArray) (w : World) (ha : Rd enV 7 w A n c l) (hg : ∀ x ∈ l, EnSz x) (hw : who.size ≤ maxLen) :
    Calls Try.prog 24 #[.slice A n c, .string who] w fun e w' => (∃ B q d, e = .returned (.tuple #[.slice B q d, .bool (entG l who)]) ∧ Own inV 1 w' w.heap.size 3 B q d (entL l who)) ∧ Below w.heap.size w w' := by
  obtain ⟨i0, hi, hz0, hz1, hz2⟩ := info_parts Try.infoIn'
  have HL := Lib.hid ha.len
  have hmm := ha.le
  have oe := Own.empty inV 1 w 3
  have b0 := below_alloc (w := w) (.cells #[] 3)
  go_enter Try.func24, Try.ntmps24
  go_wp2_with fail
  generalize hgw0 : w.alloc (.cells #[] 3) = w0 at *
  clear hgw0
  refine (l21Good_any _ _ _ _ _ (ha.below b0) hg).mono ?_
  rintro e w1 ⟨rfl, b1⟩
  replace oe := oe.below b1
  replace b1 := below_trans b0 b1
  clear b0
  cases h1 : minB l
  · have E := Lib.hid (show (entG l who) = false by unfold entG; rw [h1]; rfl)
    clear ha
    go_wp2
    go_ret2
    exact ⟨⟨_, _, _, ret_sl_bool E.out.symm, by rw [entL_no E.out]; exact oe⟩, b1⟩
  have hn20 : n ≤ 20 := by rw [← ha.len]; exact min_len h1
  have H1 := Lib.hid h1
  go_wp2_with fail
  refine (l2Word_any _ _ hw).mono ?_
  rintro e w2 ⟨rfl, hw2⟩
  replace hw2 := hw2.symm
  subst hw2
  cases h2 : wordB who
  · have E := Lib.hid (show (entG l who) = false by unfold entG; rw [h1, h2]; rfl)
    clear ha
    go_wp2
    go_ret2
    exact ⟨⟨_, _, _, ret_sl_bool E.out.symm, by rw [entL_no E.out]; exact oe⟩, b1⟩
  have HG := Lib.hid (show (entG l who) = true by unfold entG; rw [h1, h2]; rfl)
  clear h1
  go_wp2
  go_loopw [6, 7] (fun v i wr => ∃ k : Nat, k ≤ n ∧ i = .int .i64 k ∧ (∃ B q d, v = .slice B q d ∧ q ≤ k ∧ Own inV 1 wr w.heap.size 3 B q d (fm (entF who) l k)) ∧ Below w.heap.size w wr) (fun _ i _ => n - (intOf i).toNat)
  case atStart => exact ⟨0, Nat.zero_le _, rfl, ⟨_, 0, 0, rfl, Nat.le_refl _, oe⟩, b1⟩
  case round =>
    clear oe
    obtain ⟨k, hk, rfl, ⟨B, q, d, rfl, hq, ho⟩, hbw⟩ := hrel
    by_cases hlt : k < n
    · obtain ⟨b3, o3, x, rfl, hs, c0, c1, c2, c3, c4, c5, c6⟩ := (ha.below (hbw)).en hlt
      have HS := Lib.hid hs
      have hgx := hg x (List.mem_of_getElem? hs)
      clear hs ha
      cases h5 : (x.who.toList == who.toList)
      · have E := Lib.hid (fm_no (f := (entF who)) HS.out (show _ = none by unfold entF; rw [h5]; rfl))
        go_wp2
        go_roundw
        case rel => exact ⟨k + 1, by omega, by go_num, ⟨B, q, d, rfl, by omega, by rw [E.out]; exact ho⟩, hbw⟩
        case measure => simp [intOf]; omega
      
      · have E := Lib.hid (fm_yes (f := (entF who)) HS.out (show _ = some (k : Int) by unfold entF; rw [h5]; rfl))
        go_wp2_with (at_builtin; refine wpList_push rfl _ _ _ rfl w.heap.size 3 i0 (.int .i64 0) 1 8 Try.underlying47 hi hz0 hz1 hz2 rfl (by omega) inV inV_len one_int B q d _ rfl ho (k : Int) _ rfl _ rfl (by first | rfl | simp) (by simp only [maxLen]; omega) (by omega) hbw.size ?_; intro B3 d3 w3 ho3 hg3)
        go_roundw
        case rel => exact ⟨k + 1, by omega, by go_num, ⟨B3, q + 1, d3, rfl, by omega, by rw [E.out]; exact ho3⟩, below_push hbw ho hg3 (Nat.le_refl _)⟩
        case measure => simp [intOf]; omega
    · obtain rfl : k = n := by omega
      have E := Lib.hid (show fm (entF who) l k = entL l who by rw [entL_yes HG.out, HL.out])
      clear ha
      go_wp2
      go_ret2
      exact ⟨⟨_, _, _, ret_sl_bool HG.out.symm, by rw [← E.out]; exact ho⟩, hbw⟩


set_option maxRecDepth 100000 in
set_option maxHeartbeats 2000000 in
theorem specAdopted_any (A : Option Addr) (n c : Nat) (l : List EN) (w : World) (ha : Rd enV 7 w A n c l) (hg : ∀ x ∈ l, EnSz x) :
    Calls Try.prog 18 #[.slice A n c] w fun e w' => (∃ B q d, e = .returned (.tuple #[.slice B q d, .bool (minB l)]) ∧ Own stV 1 w' w.heap.size 9 B q d (adoL l)) ∧ Below w.heap.size w w' := by
  obtain ⟨i0, hi, hz0, hz1, hz2⟩ := info_parts Try.infoSt'
  have HL := Lib.hid ha.len
  have hmm := ha.le
  have oe := Own.empty stV 1 w 9
  have b0 := below_alloc (w := w) (.cells #[] 9)
  go_enter Try.func18, Try.ntmps18
  go_wp2_with fail
  generalize hgw0 : w.alloc (.cells #[] 9) = w0 at *
  clear hgw0
  refine (l21Good_any _ _ _ _ _ (ha.below b0) hg).mono ?_
  rintro e w1 ⟨rfl, b1⟩
  replace oe := oe.below b1
  replace b1 := below_trans b0 b1
  clear b0
  cases h1 : minB l
  · have E := Lib.hid (show (minB l) = false by exact h1)
    clear ha
    go_wp2
    go_ret2
    exact ⟨⟨_, _, _, ret_sl_bool E.out.symm, by rw [adoL_no E.out]; exact oe⟩, b1⟩
  have hn20 : n ≤ 20 := by rw [← ha.len]; exact min_len h1
  have H1 := Lib.hid h1
  have HG := Lib.hid (show (minB l) = true from h1)
  clear h1
  go_wp2
  go_loopw [4, 5] (fun v i wr => ∃ k : Nat, k ≤ n ∧ i = .int .i64 k ∧ (∃ B q d, v = .slice B q d ∧ q ≤ k ∧ Own stV 1 wr w.heap.size 9 B q d (fm adoF l k)) ∧ Below w.heap.size w wr) (fun _ i _ => n - (intOf i).toNat)
  case atStart => exact ⟨0, Nat.zero_le _, rfl, ⟨_, 0, 0, rfl, Nat.le_refl _, oe⟩, b1⟩
  case round =>
    clear oe
    obtain ⟨k, hk, rfl, ⟨B, q, d, rfl, hq, ho⟩, hbw⟩ := hrel
    by_cases hlt : k < n
    · obtain ⟨b3, o3, x, rfl, hs, c0, c1, c2, c3, c4, c5, c6⟩ := (ha.below (hbw)).en hlt
      have HS := Lib.hid hs
      have hgx := hg x (List.mem_of_getElem? hs)
      clear hs ha
      by_cases h5 : x.kind = 4
      rotate_left
      · have E := Lib.hid (fm_no (f := adoF) HS.out (show _ = none by unfold adoF; rw [if_neg (fun h => h5 h.1)]))
        go_wp2
        go_roundw
        case rel => exact ⟨k + 1, by omega, by go_num, ⟨B, q, d, rfl, by omega, by rw [E.out]; exact ho⟩, hbw⟩
        case measure => simp [intOf]; omega
      cases h6 : x.pa
      · have E := Lib.hid (fm_no (f := adoF) HS.out (show _ = none by unfold adoF; rw [if_neg (fun h => by rw [h6] at h; cases h.2)]))
        go_wp2
        go_roundw
        case rel => exact ⟨k + 1, by omega, by go_num, ⟨B, q, d, rfl, by omega, by rw [E.out]; exact ho⟩, hbw⟩
        case measure => simp [intOf]; omega
      
      · have E := Lib.hid (fm_yes (f := adoF) HS.out (show _ = some x.mo by unfold adoF; rw [if_pos ⟨h5, h6⟩]))
        go_wp2_with (at_builtin; refine wpList_push rfl _ _ _ rfl w.heap.size 9 i0 (.string ByteArray.empty) 1 16 Try.underlying41 hi hz0 hz1 hz2 rfl (by omega) stV stV_len one_str B q d _ rfl ho x.mo _ rfl _ rfl (by first | rfl | simp) (by simp only [maxLen]; omega) (by omega) hbw.size ?_; intro B3 d3 w3 ho3 hg3)
        go_roundw
        case rel => exact ⟨k + 1, by omega, by go_num, ⟨B3, q + 1, d3, rfl, by omega, by rw [E.out]; exact ho3⟩, below_push hbw ho hg3 (Nat.le_refl _)⟩
        case measure => simp [intOf]; omega
    · obtain rfl : k = n := by omega
      have E := Lib.hid (show fm adoF l k = adoL l by rw [adoL_yes HG.out, HL.out])
      clear ha
      go_wp2
      go_ret2
      exact ⟨⟨_, _, _, ret_sl_bool HG.out.symm, by rw [← E.out]; exact ho⟩, hbw⟩


end Go.Proofs.Ytflmokdeekjjiaa
