/-
  YtmmogpbbehgkiaaGreatDoorTraT: the text of a trace (impl.traceText, spec.l23Text, both TraceText), by contracts.
-/
import Derived.Test.YtmmogpbbehgkiaaGreatDoorTraF
import Derived.Test.YtmmogpbbehgkiaaGreatDoorNum
import Derived.Test.YtmmogpbbehgkiaaGreatDoorSt
import Derived.Test.YtmmogpbbehgkiaaGreatDoorShelf
namespace Go.Proofs.YtmmogpbbehgkiaaGreatDoor
open Go Go.RowKit Go.Sort
set_option linter.unusedVariables false

/-- The word of a step. -/
def wrd (s : TS) : ByteArray := numS s.m.toNat ++ ⟨#[letter s.k]⟩
/-- The text of a trace. -/
def txt (l : List TS) : ByteArray := joinS (l.map wrd) sp
theorem wrd_size {s : TS} (h : tsOK s = true) : (wrd s).size ≤ 21 := by
  simp [tsOK, inB] at h
  unfold wrd
  rw [ByteArray.size_append]
  have := numS_size (n := s.m.toNat) (by omega)
  show _ + 1 ≤ _
  omega
theorem txt_nil : txt [] = ByteArray.empty := rfl
theorem txt_step {l : List TS} {k : Nat} {s : TS} (hs : l[k]? = some s) :
    txt (l.take (k + 1)) = (if k = 0 then ByteArray.empty else txt (l.take k) ++ sp) ++ wrd s := by
  rw [List.take_add_one, hs]
  unfold txt
  rw [List.map_append]
  show joinS (_ ++ [wrd s]) sp = _
  split
  · rename_i h; subst h
    rw [List.take_zero, List.map_nil, List.nil_append, joinS_one]
    simp
  · rename_i h
    have hk : k < l.length := (List.getElem?_eq_some_iff.1 hs).1
    rw [joinS_snoc]
    intro e
    have := congrArg List.length e
    rw [List.length_map, List.length_take, List.length_nil] at this
    omega
theorem txt_0 {l : List TS} {k : Nat} {s : TS} (hs : l[k]? = some s) (hk : k = 0) : txt (l.take (k + 1)) = numS s.m.toNat ++ ⟨#[letter s.k]⟩ := by
  rw [txt_step hs, if_pos hk, ByteArray.empty_append]; rfl
theorem txt_1 {l : List TS} {k : Nat} {s : TS} (hs : l[k]? = some s) (hk : ¬ k = 0) : txt (l.take (k + 1)) = txt (l.take k) ++ sp ++ numS s.m.toNat ++ ⟨#[letter s.k]⟩ := by
  rw [txt_step hs, if_neg hk, ByteArray.append_assoc (a := txt (l.take k) ++ sp)]; rfl

theorem l1Num_int (x : Int) (w : World) (h0 : 0 ≤ x) (h1 : x < 1000000000000) :
    Calls Tryz.prog 53 #[.int .i64 x] w fun e w' => e = .returned (.string (numS x.toNat)) ∧ Below w.heap.size w w' := by
  obtain ⟨n, rfl⟩ := Int.eq_ofNat_of_zero_le h0
  exact l1Num_any n w (by omega)
theorem itoa_int (x : Int) (w : World) (h0 : 0 ≤ x) (h1 : x < 100) :
    Calls Tryz.prog 51 #[.int .i64 x] w fun e w' => e = .returned (.string (numS x.toNat)) ∧ w' = w := by
  obtain ⟨n, rfl⟩ := Int.eq_ofNat_of_zero_le h0
  exact Tryz.strconv_Itoa_small n (by omega) w

set_option maxHeartbeats 1000000 in
theorem l23Text_any (A : Option Addr) (n c : Nat) (l : List TS) (w : World) (ha : Rd tsV 2 w A n c l) (hg : l.all tsOK = true) (hn : n ≤ 1048576) :
    Calls Tryz.prog 34 #[.slice A n c] w fun e w' => e = .returned (.string (txt l)) ∧ Below w.heap.size w w' := by
  have hm := ha.le
  have HL := Lib.hid ha.len
  have HG := Lib.hid hg
  clear hg
  go_enter Tryz.func34, Tryz.ntmps34
  go_wp2
  go_loopw [3, 4, 5] (fun v i _ wr => ∃ k : Nat, k ≤ n ∧ i = .int .i64 k ∧ (∃ p, v = .string p ∧ p.size ≤ 22 * k ∧ p = txt (l.take k)) ∧ Below w.heap.size w wr) (fun _ i _ _ => n - (intOf i).toNat)
  case atStart => exact ⟨0, Nat.zero_le _, rfl, ⟨_, rfl, Nat.le_refl _, rfl⟩, Below.refl _ _⟩
  case round =>
    obtain ⟨k, hk, rfl, ⟨p, rfl, hp, hpp⟩, hbw⟩ := hrel
    have HP := Lib.hid hpp
    clear hpp
    by_cases hlt : k < n
    · obtain ⟨b1, o1, s, rfl, hs, c0, c1⟩ := (ha.below hbw).ts hlt
      have HS := Lib.hid hs
      have hsk : tsOK s = true := List.all_eq_true.1 HG.out s (List.mem_of_getElem? hs)
      have hsk' := hsk
      simp [tsOK, inB] at hsk'
      have hk1 : 1 ≤ s.k := by omega
      have hk2 : s.k ≤ 7 := by omega
      have hm1 : 0 ≤ s.m := by omega
      have hm2 : s.m < 1000000000000 := by omega
      have hz : (numS s.m.toNat).size ≤ 20 := numS_size (by omega)
      clear hsk hsk'
      have HX := Lib.hid (letters_cut hk1 hk2)
      have hy : ((⟨#[109, 115, 100, 97, 121, 110, 119]⟩ : ByteArray).extract (s.k.toNat - 1) s.k.toNat).size = 1 := by rw [HX.out]; rfl
      by_cases h0 : k = 0
      · have E := Lib.hid (txt_0 HS.out h0)
        have hp0 : p = ByteArray.empty := by rw [HP.out, h0]; rfl
        have h0' : ¬ (0 : Int) < (k : Int) := by omega
        subst hp0
        clear hs ha h0
        have q0 := cell_regrown c0
        have q1 := cell_regrown c1
        have z1 : (ByteArray.empty ++ numS s.m.toNat).size ≤ maxLen := by rw [ByteArray.size_append]; show 0 + _ ≤ 9223372036854775807; omega
        have z2 : (ByteArray.empty ++ numS s.m.toNat ++ (⟨#[109, 115, 100, 97, 121, 110, 119]⟩ : ByteArray).extract (s.k.toNat - 1) s.k.toNat).size ≤ maxLen := by rw [ByteArray.size_append, ByteArray.size_append, hy]; show 0 + _ + 1 ≤ 9223372036854775807; omega
        go_wp2_with fail
        refine wp_region_quiet_below (by kernel_rfl) (by kernel_rfl) ?_
        repeat (go_big_quiet_step ((go_at_call 53; exact Calls.regrown_of (l1Num_int _ _ hm1 hm2))))
        refine wpQuiet_nil ?_
        intro _ hw'
        obtain ⟨⟨dq, osq⟩, hw''⟩ := hw'
        subst hw''
        go_wp2
        go_roundw
        case rel => exact ⟨k + 1, by omega, by go_num, ⟨_, rfl, by rw [HX.out, ByteArray.size_append]; show _ + 1 ≤ _; omega, by rw [E.out, HX.out]⟩, below_grow hbw _ _⟩
        case measure => simp [intOf]; omega
      · have E := Lib.hid (txt_1 HS.out h0)
        have h0' : (0 : Int) < (k : Int) := by omega
        clear hs ha
        have q0 := cell_regrown c0
        have q1 := cell_regrown c1
        have z0 : (p ++ sp).size ≤ maxLen := by rw [ByteArray.size_append]; show _ + 1 ≤ 9223372036854775807; omega
        have z1 : (p ++ sp ++ numS s.m.toNat).size ≤ maxLen := by rw [ByteArray.size_append, ByteArray.size_append]; show _ + 1 + _ ≤ 9223372036854775807; omega
        have z2 : (p ++ sp ++ numS s.m.toNat ++ (⟨#[109, 115, 100, 97, 121, 110, 119]⟩ : ByteArray).extract (s.k.toNat - 1) s.k.toNat).size ≤ maxLen := by rw [ByteArray.size_append, ByteArray.size_append, ByteArray.size_append, hy]; show _ + 1 + _ + 1 ≤ 9223372036854775807; omega
        unfold sp at z0 z1 z2
        go_wp2_with fail
        refine wp_region_quiet_below (by kernel_rfl) (by kernel_rfl) ?_
        repeat (go_big_quiet_step ((go_at_call 53; exact Calls.regrown_of (l1Num_int _ _ hm1 hm2))))
        refine wpQuiet_nil ?_
        intro _ hw'
        obtain ⟨⟨dq, osq⟩, hw''⟩ := hw'
        subst hw''
        go_wp2
        go_roundw
        case rel => exact ⟨k + 1, by omega, by go_num, ⟨_, rfl, by rw [HX.out, ByteArray.size_append, ByteArray.size_append, ByteArray.size_append]; show _ + 1 + _ + 1 ≤ _; omega, by rw [E.out, HX.out, HP.out]; rfl⟩, below_grow hbw _ _⟩
        case measure => simp [intOf]; omega
    · obtain rfl : k = n := by omega
      have e : l.take k = l := List.take_of_length_le (by rw [HL.out]; exact Nat.le_refl _)
      have E : Hid (p = txt l) := by rw [HP.out, e]; rfl
      clear e ha
      go_wp2
      go_ret
      exact ⟨ret_str E.out, hbw⟩

theorem txt_size {l : List TS} (hg : l.all tsOK = true) : ∀ k, (txt (l.take k)).size ≤ 22 * k := by
  intro k
  induction k with
  | zero => exact Nat.le_refl _
  | succ k ih =>
    by_cases hk : k < l.length
    · have hs : l[k]? = some l[k] := List.getElem?_eq_getElem hk
      have hw := wrd_size (List.all_eq_true.1 hg _ (List.getElem_mem hk))
      rw [txt_step hs, ByteArray.size_append]
      split
      · show 0 + _ ≤ _; omega
      · rw [ByteArray.size_append]; show _ + 1 + _ ≤ _; omega
    · rw [List.take_of_length_le (by omega)] at ih ⊢
      omega
theorem txts_snoc {l : List TS} {k : Nat} {s : TS} (hs : l[k]? = some s) : (l.take (k + 1)).map wrd = (l.take k).map wrd ++ [numS s.m.toNat ++ ⟨#[letter s.k]⟩] := by
  rw [List.take_add_one, hs, List.map_append]; rfl

set_option maxRecDepth 100000 in
set_option maxHeartbeats 2000000 in
theorem traceText_any (A : Option Addr) (n c : Nat) (l : List TS) (w : World) (ha : Rd tsV 2 w A n c l) (hg : l.all tsOK = true) (hn : n ≤ 1048576) :
    Calls Tryz.prog 33 #[.slice A n c] w fun e w' => e = .returned (.string (txt l)) ∧ Below w.heap.size w w' := by
  have hm := ha.le
  have HL := Lib.hid ha.len
  have HG := Lib.hid hg
  clear hg
  obtain ⟨i0, hi, hz0, hz1, hz2⟩ := info_parts Tryz.infoSt
  have ho0 := Own.empty stV 1 w 9
  go_enter Tryz.func33, Tryz.ntmps33
  go_wp2
  go_loopw [3, 9] (fun v i wr => ∃ k : Nat, k ≤ n ∧ i = .int .i64 k ∧ (∃ B d, v = .slice B k d ∧ Own stV 1 wr w.heap.size 9 B k d ((l.take k).map wrd)) ∧ Below w.heap.size w wr) (fun _ i _ => n - (intOf i).toNat)
  case atStart => exact ⟨0, Nat.zero_le _, rfl, ⟨_, 0, rfl, ho0⟩, below_alloc _⟩
  case round =>
    clear ho0
    obtain ⟨k, hk, rfl, ⟨B, d, rfl, ho⟩, hbw⟩ := hrel
    by_cases hlt : k < n
    · obtain ⟨b1, o1, s, rfl, hs, c0, c1⟩ := (ha.below hbw).ts hlt
      have HS := Lib.hid hs
      have hsk : tsOK s = true := List.all_eq_true.1 HG.out s (List.mem_of_getElem? hs)
      have hsk' := hsk
      simp [tsOK, inB] at hsk'
      have hk1 : 1 ≤ s.k := by omega
      have hk2 : s.k ≤ 7 := by omega
      have hm1 : 0 ≤ s.m := by omega
      have hm2 : s.m < 100 := by omega
      have hz : (numS s.m.toNat).size ≤ 20 := numS_size (by omega)
      have hsr := hbw.size
      have E := Lib.hid (txts_snoc hs)
      clear hsk hsk' hs ha
      have HX := Lib.hid (letters_cut' hk1 hk2)
      have hy : ((⟨#[32, 109, 115, 100, 97, 121, 110, 119]⟩ : ByteArray).extract s.k.toNat (s.k + 1).toNat).size = 1 := by rw [HX.out]; rfl
      have z2 : (numS s.m.toNat ++ (⟨#[32, 109, 115, 100, 97, 121, 110, 119]⟩ : ByteArray).extract s.k.toNat (s.k + 1).toNat).size ≤ maxLen := by rw [ByteArray.size_append, hy]; show _ + 1 ≤ 9223372036854775807; omega
      have hw1 : IntKind.i64.wrap (s.k + 1) = s.k + 1 := IntWalk.i64_in _ (by omega)
      have hb1 : 0 ≤ s.k + 1 ∧ s.k + 1 ≤ 8 := by omega
      have hb2 : 0 ≤ s.k ∧ s.k ≤ s.k + 1 := by omega
      have hb3 : ¬ 9223372036854775807 < (numS s.m.toNat).size + 1 := by omega
      go_wp2_with fail
      go_region_law (first
        | (go_simp; go_at_call 51; refine (itoa_int _ _ hm1 hm2).mono ?_; rintro e wa ⟨rfl, rfl⟩)
        | (refine step_pushAll rfl (.tmp 13) (.tmp 24) _ rfl w.heap.size 9 i0 _ 1 16 Tryz.underlying57 hi hz0 hz1 hz2 rfl (by omega) stV stV_len one_st B k d ((l.take k).map wrd) _ 1 1 [numS s.m.toNat ++ (⟨#[32, 109, 115, 100, 97, 121, 110, 119]⟩ : ByteArray).extract s.k.toNat (s.k + 1).toNat] rfl rfl (k + 1) rfl (by simp only [maxLen]; omega) (by omega) (by simp; omega) ?_ ?_ ?_
           · first | exact ((ho.alloc _).alloc _).drew | exact ((ho.alloc _).drew).alloc _
           · exact Rd.of_block (heap_new (by simp)) rfl
           intro B2 d2 w2 o2 g2
           have b2 : Below w.heap.size w w2 := by first | exact below_push (below_trans hbw (below_alloc2 _ _)).drew ((ho.alloc _).alloc _).drew g2 (Nat.le_refl _) | exact below_push (below_trans (below_trans hbw (below_alloc _)).drew (below_alloc _)) (((ho.alloc _).drew).alloc _) g2 (Nat.le_refl _)))
      all_goals
        go_wp2
        go_roundw
        case rel => exact ⟨k + 1, by omega, by go_num, ⟨B2, d2, rfl, by rw [E.out, ← HX.out]; exact o2⟩, b2⟩
        case measure => simp [intOf]; omega
    · obtain rfl : k = n := by omega
      have e : l.take k = l := List.take_of_length_le (by rw [HL.out]; exact Nat.le_refl _)
      rw [e] at ho
      clear e ha
      by_cases h0 : k = 0
      · subst h0
        have hl0 : l = [] := List.length_eq_zero_iff.1 HL.out
        subst hl0
        go_wp2_with fail
        refine (Tryz.strings_Join_none _ _ _ _).mono ?_
        rintro e w1 ⟨rfl, rfl⟩
        go_wp2
        go_ret
        exact ⟨rfl, hbw⟩
      · obtain ⟨g, rfl⟩ := ho.form (by omega)
        have hg := (ho.lt rfl).2
        have hj : (Lib.join ((l.map wrd).map (·.data.toList)) sp.data.toList).length ≤ 140737488355328 := by
          have h1 := txt_size (l := l) HG.out l.length
          rw [List.take_length] at h1
          have h2 : (txt l).size = (Lib.join ((l.map wrd).map (·.data.toList)) sp.data.toList).length := by unfold txt joinS; simp [ByteArray.size]
          have := HL.out
          omega
        have hcap : (l.map wrd).length ≤ d := by have := (ho.rd stV_len).cap; rw [List.length_map, HL.out]; exact this
        have hle : (l.map wrd).length = k := by rw [List.length_map, HL.out]
        have hjn := Tryz.strings_Join g 0 d (l.map wrd) sp wr (fun j x hx => by simpa using ho.cell stV_len (i := j) (j := 0) hx rfl) hg (by omega) hcap hj
        rw [hle] at hjn
        have HJ : Hid (Calls Tryz.prog 52 #[.slice (some ⟨g, 0, none⟩) k d, .string sp] wr fun e w' => e = .returned (.string (txt l)) ∧ Below wr.heap.size wr w') := hjn
        clear hjn hcap hle hj ho
        go_wp2_with fail
        refine HJ.out.mono ?_
        rintro e w1 ⟨rfl, b1⟩
        go_wp2
        go_ret
        exact ⟨rfl, below_trans hbw b1⟩

/-- What TraceText gives. -/
def txtL (l : List TS) : ByteArray := if goodL l then txt l else ByteArray.empty
theorem goodL_both {l : List TS} (h : goodL l = true) : l.all tsOK = true ∧ l.length ≤ 24 := by
  unfold goodL at h
  simpa using h

theorem implTraceText_any (A : Option Addr) (n c : Nat) (l : List TS) (w : World) (ha : Rd tsV 2 w A n c l) :
    Calls Tryz.prog 16 #[.slice A n c] w fun e w' => e = .returned (.tuple #[.string (txtL l), .bool (goodL l)]) ∧ Below w.heap.size w w' := by
  have HL := Lib.hid ha.len
  cases h : goodL l
  · have E := Lib.hid (show txtL l = ByteArray.empty by simp [txtL, h])
    have H := Lib.hid h
    go_enter Tryz.func16, Tryz.ntmps16
    go_wp2_with fail
    refine (implIsTraceList_any _ _ _ _ _ ha).mono ?_
    rintro e w1 ⟨rfl, b1⟩
    rw [H.out]
    go_wp2
    go_ret2
    exact ⟨by rw [E.out]; rfl, b1⟩
  · have E := Lib.hid (show txtL l = txt l by simp [txtL, h])
    have H := Lib.hid h
    obtain ⟨g1, g2⟩ := goodL_both h
    have G1 := Lib.hid g1
    have hn : n ≤ 1048576 := by have := HL.out; omega
    clear h g1 g2
    go_enter Tryz.func16, Tryz.ntmps16
    go_wp2_with fail
    refine (implIsTraceList_any _ _ _ _ _ ha).mono ?_
    rintro e w1 ⟨rfl, b1⟩
    rw [H.out]
    go_wp2_with fail
    refine (traceText_any _ _ _ _ _ (ha.below b1) G1.out hn).mono ?_
    rintro e w2 ⟨rfl, b2⟩
    go_wp2
    go_ret2
    exact ⟨by rw [E.out]; rfl, below_trans b1 b2⟩

theorem specTraceText_any (A : Option Addr) (n c : Nat) (l : List TS) (w : World) (ha : Rd tsV 2 w A n c l) :
    Calls Tryz.prog 17 #[.slice A n c] w fun e w' => e = .returned (.tuple #[.string (txtL l), .bool (goodL l)]) ∧ Below w.heap.size w w' := by
  have HL := Lib.hid ha.len
  cases h : goodL l
  · have E := Lib.hid (show txtL l = ByteArray.empty by simp [txtL, h])
    have H := Lib.hid h
    go_enter Tryz.func17, Tryz.ntmps17
    go_wp2_with fail
    refine (l23Good_any _ _ _ _ _ ha).mono ?_
    rintro e w1 ⟨rfl, rfl⟩
    rw [H.out]
    go_wp2
    go_ret2
    exact ⟨by rw [E.out]; rfl, Below.refl _ _⟩
  · have E := Lib.hid (show txtL l = txt l by simp [txtL, h])
    have H := Lib.hid h
    obtain ⟨g1, g2⟩ := goodL_both h
    have G1 := Lib.hid g1
    have hn : n ≤ 1048576 := by have := HL.out; omega
    clear h g1 g2
    go_enter Tryz.func17, Tryz.ntmps17
    go_wp2_with fail
    refine (l23Good_any _ _ _ _ _ ha).mono ?_
    rintro e w1 ⟨rfl, rfl⟩
    rw [H.out]
    go_wp2_with fail
    refine (l23Text_any _ _ _ _ _ ha G1.out hn).mono ?_
    rintro e w2 ⟨rfl, b2⟩
    go_wp2
    go_ret2
    exact ⟨by rw [E.out]; rfl, b2⟩

end Go.Proofs.YtmmogpbbehgkiaaGreatDoor
