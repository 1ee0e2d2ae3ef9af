/-
  YtmmogpbbehgkiaaTraC: traces: the kinds of a motion's steps (impl.kindsOf), their letters (spec.l23Path), both PathOf.
-/
import Derived.Test.YtmmogpbbehgkiaaTraB
namespace Go.Proofs.Ytmmogpbbehgkiaa
open Go Go.RowKit Go.Sort
set_option linter.unusedVariables false

/-- The kinds of the steps of motion m, in their order. -/
def kinds (l : List TS) (m : Int) : List Int := (l.filter fun s => s.m == m).map (·.k)
theorem kinds_len (l : List TS) (m : Int) : (kinds l m).length ≤ l.length := by
  unfold kinds; rw [List.length_map]; exact List.length_filter_le _ _
theorem kinds_yes {l : List TS} {m : Int} {k : Nat} {s : TS} (hs : l[k]? = some s) (h : (s.m == m) = true) : kinds (l.take (k + 1)) m = kinds (l.take k) m ++ [s.k] := by
  unfold kinds; rw [List.take_add_one, hs, List.filter_append, List.map_append]; simp [h]
theorem kinds_no {l : List TS} {m : Int} {k : Nat} {s : TS} (hs : l[k]? = some s) (h : (s.m == m) = false) : kinds (l.take (k + 1)) m = kinds (l.take k) m := by
  unfold kinds; rw [List.take_add_one, hs, List.filter_append, List.map_append]; simp [h]
theorem kinds_mem {l : List TS} {m : Int} (hg : l.all tsOK = true) {i : Nat} {x : Int} (hx : (kinds l m)[i]? = some x) : 1 ≤ x ∧ x ≤ 7 := by
  have := List.mem_of_getElem? hx
  unfold kinds at this
  obtain ⟨s, hs, rfl⟩ := List.mem_map.1 this
  have h1 := List.all_eq_true.1 hg s (List.mem_filter.1 hs).1
  simp [tsOK, inB] at h1
  omega

theorem one_in (x : Int) : ∀ u ∈ inV x, u.oneCell' = true := by intro u hu; simp [inV] at hu; subst hu; rfl

theorem Try.infoIn : (Try.prog.info? 3).map (fun i => (i.zero, i.size, i.bytes)) = some (some (.int .i64 0), 1, 8) := by kernel_rfl

set_option maxHeartbeats 1000000 in
theorem kindsOf_any (A : Option Addr) (n c : Nat) (l : List TS) (m : Int) (w : World) (ha : Rd tsV 2 w A n c l) (hn : n ≤ 1048576) :
    Calls Try.prog 43 #[.slice A n c, .int .i64 m] w fun e w' => (∃ B q d, e = .returned (.slice B q d) ∧ Own inV 1 w' w.heap.size 3 B q d (kinds l m)) ∧ Below w.heap.size w w' := by
  have hm := ha.le
  have HL := Lib.hid ha.len
  obtain ⟨i0, hi, hz0, hz1, hz2⟩ := info_parts Try.infoIn
  have ho0 := Own.empty inV 1 w 3
  go_enter Try.func43, Try.ntmps43
  go_wp2
  go_loopw [5, 11] (fun v i wr => ∃ k : Nat, k ≤ n ∧ i = .int .i64 k ∧ ∃ B q d, v = .slice B q d ∧ q ≤ k ∧ Own inV 1 wr w.heap.size 3 B q d (kinds (l.take k) m) ∧ Below w.heap.size w wr) (fun _ i _ => n - (intOf i).toNat)
  case atStart => exact ⟨0, Nat.zero_le _, rfl, _, 0, 0, rfl, Nat.le_refl _, ho0, below_alloc _⟩
  case round =>
    clear ho0
    obtain ⟨k, hk, rfl, B, q, d, rfl, hq, ho, hbw⟩ := hrel
    by_cases hlt : k < n
    · obtain ⟨b1, o1, s, rfl, hs, c0, c1⟩ := (ha.below hbw).ts hlt
      have HS := Lib.hid hs
      have hsr := hbw.size
      clear hs ha
      cases h1 : (s.m == m)
      · have E := Lib.hid (kinds_no HS.out h1)
        go_wp2
        go_roundw
        case rel => exact ⟨k + 1, by omega, by go_num, B, q, d, rfl, by omega, by rw [E.out]; exact ho.alloc _, below_trans hbw (below_alloc _)⟩
        case measure => simp [intOf]; omega
      · have E := Lib.hid (kinds_yes HS.out h1)
        go_wp2_with (at_builtin; go_loud (refine wpList_push rfl _ _ _ rfl w.heap.size 3 i0 (.int .i64 0) 1 8 Try.underlying37 hi hz0 hz1 hz2 rfl (by omega) inV inV_len one_in B q d _ rfl (ho.alloc _) s.k _ rfl _ rfl (by first | rfl | simp) (by simp only [maxLen]; omega) (by omega) (by simp; omega) ?_); intro B2 d2 w2 ho2 hg2)
        go_roundw
        case rel => exact ⟨k + 1, by omega, by go_num, B2, q + 1, d2, rfl, by omega, by rw [E.out]; exact ho2, below_push (below_trans hbw (below_alloc _)) (ho.alloc _) hg2 (Nat.le_refl _)⟩
        case measure => simp [intOf]; omega
    · obtain rfl : k = n := by omega
      have e : l.take k = l := List.take_of_length_le (by rw [HL.out]; exact Nat.le_refl _)
      rw [e] at ho
      clear e ha
      go_wp2
      go_ret
      exact ⟨⟨_, _, _, rfl, ho⟩, hbw⟩

/-- The letter of a kind. -/
def letter (k : Int) : UInt8 := ([109, 115, 100, 97, 121, 110, 119] : List UInt8).getD (k - 1).toNat 0
/-- The letters of the steps of motion m. -/
def path (l : List TS) (m : Int) : ByteArray := ⟨((kinds l m).map letter).toArray⟩
theorem path_size (l : List TS) (m : Int) : (path l m).size ≤ l.length := by
  have := kinds_len l m
  show (((kinds l m).map letter).toArray).size ≤ l.length
  simpa using this
theorem path_yes {l : List TS} {m : Int} {k : Nat} {s : TS} (hs : l[k]? = some s) (h : (s.m == m) = true) : path (l.take (k + 1)) m = path (l.take k) m ++ ⟨#[letter s.k]⟩ := by
  unfold path
  rw [kinds_yes hs h]
  apply ByteArray.ext
  simp
theorem path_no {l : List TS} {m : Int} {k : Nat} {s : TS} (hs : l[k]? = some s) (h : (s.m == m) = false) : path (l.take (k + 1)) m = path (l.take k) m := by
  unfold path; rw [kinds_no hs h]

theorem letters_cut {k : Int} (h1 : 1 ≤ k) (h2 : k ≤ 7) : (⟨#[109, 115, 100, 97, 121, 110, 119]⟩ : ByteArray).extract (k.toNat - 1) k.toNat = ⟨#[letter k]⟩ := by
  have h : k = 1 ∨ k = 2 ∨ k = 3 ∨ k = 4 ∨ k = 5 ∨ k = 6 ∨ k = 7 := by omega
  rcases h with rfl | rfl | rfl | rfl | rfl | rfl | rfl <;> decide
theorem letters_cut' {k : Int} (h1 : 1 ≤ k) (h2 : k ≤ 7) : (⟨#[32, 109, 115, 100, 97, 121, 110, 119]⟩ : ByteArray).extract k.toNat (k + 1).toNat = ⟨#[letter k]⟩ := by
  have h : k = 1 ∨ k = 2 ∨ k = 3 ∨ k = 4 ∨ k = 5 ∨ k = 6 ∨ k = 7 := by omega
  rcases h with rfl | rfl | rfl | rfl | rfl | rfl | rfl <;> decide

set_option maxHeartbeats 1000000 in
theorem l23Path_any (A : Option Addr) (n c : Nat) (l : List TS) (m : Int) (w : World) (ha : Rd tsV 2 w A n c l) (hg : l.all tsOK = true) (hn : n ≤ 1048576) :
    Calls Try.prog 49 #[.slice A n c, .int .i64 m] w fun e w' => e = .returned (.string (path l m)) ∧ w = w' := by
  have hm := ha.le
  have HL := Lib.hid ha.len
  have HG := Lib.hid hg
  clear hg
  go_enter Try.func49, Try.ntmps49
  go_wp2
  go_loop [5, 6, 7] (fun v i _ => ∃ k : Nat, k ≤ n ∧ i = .int .i64 k ∧ ∃ p, v = .string p ∧ p.size ≤ k ∧ p = path (l.take k) m) (fun _ i _ => n - (intOf i).toNat)
  case atStart => exact ⟨0, Nat.zero_le _, rfl, _, rfl, Nat.le_refl _, rfl⟩
  case round =>
    obtain ⟨k, hk, rfl, p, rfl, hp, hpp⟩ := hrel
    have HP := Lib.hid hpp
    clear hpp
    by_cases hlt : k < n
    · obtain ⟨b1, o1, s, rfl, hs, c0, c1⟩ := ha.ts hlt
      have HS := Lib.hid hs
      have hk7 : 1 ≤ s.k ∧ s.k ≤ 7 := by
        have h1 := List.all_eq_true.1 HG.out s (List.mem_of_getElem? hs)
        simp [tsOK, inB] at h1
        omega
      obtain ⟨hk1, hk2⟩ := hk7
      clear hs ha
      cases h1 : (s.m == m)
      · have E := Lib.hid (path_no HS.out h1)
        go_wp2
        go_round
        case rel => exact ⟨k + 1, by omega, by go_num, p, rfl, by omega, by rw [E.out]; exact HP.out⟩
        case measure => simp [intOf]; omega
      · have E := Lib.hid (path_yes HS.out h1)
        have hx := letters_cut hk1 hk2
        have HX := Lib.hid hx
        clear hx
        go_wp2
        go_round
        case rel => exact ⟨k + 1, by omega, by go_num, _, rfl, by rw [HX.out, ByteArray.size_append]; show p.size + 1 ≤ k + 1; omega, by rw [HX.out, E.out, HP.out]⟩
        case measure => simp [intOf]; omega
    · obtain rfl : k = n := by omega
      have e : l.take k = l := List.take_of_length_le (by rw [HL.out]; exact Nat.le_refl _)
      have E : Hid (p = path l m) := by rw [HP.out, e]; rfl
      clear e ha
      go_wp2
      go_ret
      exact ⟨ret_str E.out, rfl⟩

theorem specPathOf_yes (A : Option Addr) (n c : Nat) (l : List TS) (m : Int) (w : World) (ha : Rd tsV 2 w A n c l) (hg : goodL l = true) (hm : inB m 1 20 = true) :
    Calls Try.prog 25 #[.slice A n c, .int .i64 m] w fun e w' => e = .returned (.tuple #[.string (path l m), .bool true]) ∧ w = w' := by
  have hall : l.all tsOK = true := by simp [goodL] at hg; simpa using hg.1
  have hn : n ≤ 24 := by rw [← ha.len]; simp [goodL] at hg; exact hg.2
  have HA := Lib.hid hall
  clear hall
  go_enter Try.func25, Try.ntmps25
  go_wp2_with (first | (go_at_call 47; refine (l23Good_any _ _ _ _ _ ha).mono ?_; rintro e w' ⟨rfl, rfl⟩) | (go_at_call 48; refine (l23Motion_any _ _).mono ?_; rintro e w' ⟨rfl, rfl⟩) | (go_at_call 49; refine (l23Path_any _ _ _ _ _ _ ha HA.out (by omega)).mono ?_; rintro e w' ⟨rfl, rfl⟩))
  go_ret2
  exact ⟨rfl, rfl⟩
theorem specPathOf_no (A : Option Addr) (n c : Nat) (l : List TS) (m : Int) (w : World) (ha : Rd tsV 2 w A n c l) (h : (goodL l && inB m 1 20) = false) :
    Calls Try.prog 25 #[.slice A n c, .int .i64 m] w fun e w' => e = .returned (.tuple #[.string ByteArray.empty, .bool false]) ∧ w = w' := by
  cases hg : goodL l
  · go_enter Try.func25, Try.ntmps25
    go_wp2_with (first | (go_at_call 47; refine (l23Good_any _ _ _ _ _ ha).mono ?_; rintro e w' ⟨rfl, rfl⟩) | (go_at_call 48; refine (l23Motion_any _ _).mono ?_; rintro e w' ⟨rfl, rfl⟩))
    go_ret2
    exact ⟨rfl, rfl⟩
  · have hm : inB m 1 20 = false := by simpa [hg] using h
    clear h
    go_enter Try.func25, Try.ntmps25
    go_wp2_with (first | (go_at_call 47; refine (l23Good_any _ _ _ _ _ ha).mono ?_; rintro e w' ⟨rfl, rfl⟩) | (go_at_call 48; refine (l23Motion_any _ _).mono ?_; rintro e w' ⟨rfl, rfl⟩))
    go_ret2
    exact ⟨rfl, rfl⟩

theorem implPathOf_no (A : Option Addr) (n c : Nat) (l : List TS) (m : Int) (w : World) (ha : Rd tsV 2 w A n c l) (h : (goodL l && inB m 1 20) = false) :
    Calls Try.prog 22 #[.slice A n c, .int .i64 m] w fun e w' => e = .returned (.tuple #[.string ByteArray.empty, .bool false]) ∧ Below w.heap.size w w' := by
  cases hg : goodL l
  · go_enter Try.func22, Try.ntmps22
    go_wp2_with fail
    refine (implIsTraceList_any _ _ _ _ _ ha).mono ?_
    rintro e w1 ⟨rfl, hb1⟩
    go_wp2_with (go_at_call 42; refine (isMotion_any _ _).mono ?_; rintro e w' ⟨rfl, rfl⟩)
    go_ret2
    exact ⟨rfl, hb1⟩
  · have hm : inB m 1 20 = false := by simpa [hg] using h
    clear h
    go_enter Try.func22, Try.ntmps22
    go_wp2_with fail
    refine (implIsTraceList_any _ _ _ _ _ ha).mono ?_
    rintro e w1 ⟨rfl, hb1⟩
    go_wp2_with (go_at_call 42; refine (isMotion_any _ _).mono ?_; rintro e w' ⟨rfl, rfl⟩)
    go_ret2
    exact ⟨rfl, hb1⟩

set_option maxHeartbeats 1000000 in
theorem implPathOf_yes (A : Option Addr) (n c : Nat) (l : List TS) (m : Int) (w : World) (ha : Rd tsV 2 w A n c l) (hg : goodL l = true) (hm : inB m 1 20 = true) :
    Calls Try.prog 22 #[.slice A n c, .int .i64 m] w fun e w' => e = .returned (.tuple #[.string (path l m), .bool true]) ∧ Below w.heap.size w w' := by
  have hall : l.all tsOK = true := by simp [goodL] at hg; simpa using hg.1
  have hn : n ≤ 24 := by rw [← ha.len]; simp [goodL] at hg; exact hg.2
  have HA := Lib.hid hall
  have HL := Lib.hid ha.len
  clear hall
  go_enter Try.func22, Try.ntmps22
  go_wp2_with fail
  refine (implIsTraceList_any _ _ _ _ _ ha).mono ?_
  rintro e w1 ⟨rfl, hb1⟩
  go_wp2_with (go_at_call 42; refine (isMotion_any _ _).mono ?_; rintro e w' ⟨rfl, rfl⟩)
  refine (kindsOf_any _ _ _ _ _ _ (ha.below hb1) (by omega)).mono ?_
  rintro e w2 ⟨⟨B, q, d, rfl, ho⟩, hb2⟩
  have hr := ho.rd inV_len
  have hq : q ≤ 24 := by rw [← ho.len]; have := kinds_len l m; have := HL.out; omega
  have HK := Lib.hid ho.len
  clear ho ha
  go_wp2
  go_loop [6, 8, 21] (fun v _ i => ∃ k : Nat, k ≤ q ∧ i = .int .i64 k ∧ ∃ p, v = .string p ∧ p.size ≤ k ∧ p = ⟨(((kinds l m).take k).map letter).toArray⟩) (fun _ _ i => q - (intOf i).toNat)
  case atStart => exact ⟨0, Nat.zero_le _, rfl, _, rfl, Nat.le_refl _, rfl⟩
  case round =>
    obtain ⟨k, hk, rfl, p, rfl, hp, hpp⟩ := hrel
    have HP := Lib.hid hpp
    clear hpp
    by_cases hlt : k < q
    · obtain ⟨b1, o1, s, rfl, hs, c0⟩ := hr.in hlt
      obtain ⟨hk1, hk2⟩ := kinds_mem HA.out hs
      have E : Hid ((⟨(((kinds l m).take (k + 1)).map letter).toArray⟩ : ByteArray) = ⟨(((kinds l m).take k).map letter).toArray⟩ ++ ⟨#[letter s]⟩) := by
        show _ = _
        rw [List.take_add_one, hs]
        apply ByteArray.ext
        simp
      have hx := letters_cut' hk1 hk2
      have HX := Lib.hid hx
      clear hx hs hr
      go_wp2
      go_round
      case rel => exact ⟨k + 1, by omega, by go_num, _, rfl, by rw [HX.out, ByteArray.size_append]; show p.size + 1 ≤ k + 1; omega, by rw [HX.out, E.out, HP.out]⟩
      case measure => simp [intOf]; omega
    · obtain rfl : k = q := by omega
      have E : Hid (p = path l m) := by rw [HP.out, List.take_of_length_le (by rw [HK.out]; exact Nat.le_refl _)]; rfl
      clear hr
      go_wp2
      go_ret2
      exact ⟨ret_str_bool E.out rfl, below_trans hb1 hb2⟩

end Go.Proofs.Ytmmogpbbehgkiaa
