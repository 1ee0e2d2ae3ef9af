/-
  YthphjncgbaknnaaGreatDoorMinY: the text of minutes (impl.minutesText, spec.l21Join, both MinutesText), by contracts.
-/
import Derived.Test.YthphjncgbaknnaaGreatDoorMinX
import Derived.Test.YthphjncgbaknnaaGreatDoorMinL
namespace Go.Proofs.YthphjncgbaknnaaGreatDoor
open Go Go.RowKit Go.Sort
set_option linter.unusedVariables false
set_option linter.unusedSimpArgs false

theorem enOK_sizes {x : EN} (h : EnOK x) : x.who.size ≤ 10 ∧ x.mo.size ≤ 10 ∧ (0 ≤ x.yes ∧ x.yes ≤ 1000) ∧ (0 ≤ x.no ∧ x.no ≤ 1000) ∧ (0 ≤ x.ab ∧ x.ab ≤ 1000) := by
  have he : ∀ s : ByteArray, s.toList = [] → s.size ≤ 10 := fun s hs => by rw [(toList_nil_iff_emptyBytes s).1 hs]; exact Nat.zero_le _
  rcases h with ⟨_, h2, h3, ⟨h4, h5, h6⟩, _⟩ | ⟨_, h2, h3, ⟨h4, h5, h6⟩, _⟩ | ⟨_, h2, h3, h4, h5, h6⟩ | ⟨_, h2, h3, h4, h5, h6⟩
  · exact ⟨(word_size h2).2, he _ h3, by omega, by omega, by omega⟩
  · exact ⟨(word_size h2).2, (word_size h3).2, by omega, by omega, by omega⟩
  · exact ⟨he _ h2, (word_size h3).2, h4, h5, h6⟩
  · exact ⟨(word_size h2).2, (word_size h3).2, by omega, by omega, by omega⟩
theorem senS_size {x : EN} (h : EnOK x) : (senS x).size ≤ 200 := by
  obtain ⟨h1, h2, h3, h4, h5⟩ := enOK_sizes h
  have hc := capS_size x.who
  have hv := votS_size h3 h4 h5
  unfold senS
  repeat' split
  all_goals (simp only [ByteArray.size_append, sz_CH, sz_OP, sz_CL, sz_MV, sz_SE, sz_DOT, sz_RU, sz_INO, sz_OUTO, sz_MT, sz_WAS, sz_ADO, sz_REJ, sz_BY]; omega)
/-- The text of minutes. -/
def menT (l : List EN) : ByteArray := joinS (l.map senS) sp
theorem menT_step {l : List EN} {k : Nat} {x : EN} (hs : l[k]? = some x) :
    menT (l.take (k + 1)) = (if k = 0 then ByteArray.empty else menT (l.take k) ++ sp) ++ senS x := by
  rw [List.take_add_one, hs]
  unfold menT
  rw [List.map_append]
  show joinS (_ ++ [senS x]) sp = _
  split
  · rename_i h; subst h
    rw [List.take_zero, List.map_nil, List.nil_append, joinS_one]
    simp
  · rename_i h
    have hk : k < l.length := (List.getElem?_eq_some_iff.1 hs).1
    rw [joinS_snoc]
    intro e
    have := congrArg List.length e
    rw [List.length_map, List.length_take, List.length_nil] at this
    omega
theorem menT_size {l : List EN} (hg : l.all enOK = true) : ∀ k, (menT (l.take k)).size ≤ 201 * k := by
  intro k
  induction k with
  | zero => exact Nat.le_refl _
  | succ k ih =>
    by_cases hk : k < l.length
    · have hs : l[k]? = some l[k] := List.getElem?_eq_getElem hk
      have hw := senS_size (of_decide_eq_true (List.all_eq_true.1 hg _ (List.getElem_mem hk)))
      rw [menT_step hs, ByteArray.size_append]
      split
      · show 0 + _ ≤ _; omega
      · rw [ByteArray.size_append]; show _ + 1 + _ ≤ _; omega
    · rw [List.take_of_length_le (by omega)] at ih ⊢
      omega
theorem mens_snoc {l : List EN} {k : Nat} {x : EN} (hs : l[k]? = some x) : (l.take (k + 1)).map senS = (l.take k).map senS ++ [senS x] := by
  rw [List.take_add_one, hs, List.map_append]; rfl

set_option maxRecDepth 100000 in
set_option maxHeartbeats 2000000 in
theorem minutesText_any (A : Option Addr) (n c : Nat) (l : List EN) (w : World) (hT : Lib.TabIs Tryz.prog w "internal/strconv.uint64pow10" .u64 Lib.pow10Tab) (ha : Rd enV 7 w A n c l) (hg : l.all enOK = true) (hn : n ≤ 1048576) :
    Calls Tryz.prog 32 #[.slice A n c] w fun e w' => e = .returned (.string (menT l)) ∧ Below w.heap.size w w' := by
  have hm := ha.le
  have HL := Lib.hid ha.len
  have HG := Lib.hid hg
  clear hg
  obtain ⟨i0, hi, hz0, hz1, hz2⟩ := info_parts Tryz.infoSt
  have ho0 := Own.empty stV 1 w 9
  go_enter Tryz.func32, Tryz.ntmps32
  go_wp2
  go_loopw [3, 9] (fun v i wr => ∃ k : Nat, k ≤ n ∧ i = .int .i64 k ∧ (∃ B d, v = .slice B k d ∧ Own stV 1 wr w.heap.size 9 B k d ((l.take k).map senS)) ∧ Below w.heap.size w wr) (fun _ i _ => n - (intOf i).toNat)
  case atStart => exact ⟨0, Nat.zero_le _, rfl, ⟨_, 0, rfl, ho0⟩, below_alloc _⟩
  case round =>
    clear ho0
    obtain ⟨k, hk, rfl, ⟨B, d, rfl, ho⟩, hbw⟩ := hrel
    by_cases hlt : k < n
    · obtain ⟨b1, o1, x, rfl, hs, c0, c1, c2, c3, c4, c5, c6⟩ := (ha.below hbw).en hlt
      have hok := Lib.hid (of_decide_eq_true (List.all_eq_true.1 HG.out x (List.mem_of_getElem? hs)))
      have hsr := hbw.size
      have E := Lib.hid (mens_snoc hs)
      have hT2 := pow10_below hT (below_trans hbw (below_alloc (.cells #[.int .i64 x.kind, .string x.who, .string x.mo, .int .i64 x.yes, .int .i64 x.no, .int .i64 x.ab, .bool x.pa] 27)))
      clear hs ha
      go_wp2_with fail
      refine (entryText_any x _ hT2 hok.out).mono ?_
      rintro e w3 ⟨rfl, b3⟩
      have t3 := below_trans (below_trans hbw (below_alloc _)) b3
      have o3 := (ho.alloc (.cells #[.int .i64 x.kind, .string x.who, .string x.mo, .int .i64 x.yes, .int .i64 x.no, .int .i64 x.ab, .bool x.pa] 27)).below b3
      have s3 := t3.size
      go_wp2_with (at_builtin; go_loud (refine wpList_push rfl _ _ _ rfl w.heap.size 9 i0 (.string ByteArray.empty) 1 16 Tryz.underlying55 hi hz0 hz1 hz2 rfl (by omega) stV stV_len one_st B k d _ rfl o3 (senS x) _ rfl _ rfl (by first | rfl | simp) (by simp only [maxLen]; omega) (by omega) (by first | omega | (simp; omega)) ?_); intro B2 d2 w2 ho2 hg2)
      go_roundw
      case rel => exact ⟨k + 1, by omega, by go_num, ⟨B2, d2, rfl, by rw [E.out]; exact ho2⟩, below_push t3 o3 hg2 (Nat.le_refl _)⟩
      case measure => simp [intOf]; omega
    · obtain rfl : k = n := by omega
      have e : l.take k = l := List.take_of_length_le (by rw [HL.out]; exact Nat.le_refl _)
      rw [e] at ho
      clear e ha
      by_cases h0 : k = 0
      · subst h0
        have hl0 : l = [] := List.length_eq_zero_iff.1 HL.out
        subst hl0
        go_wp2_with fail
        refine (Tryz.strings_Join_none _ _ _ _).mono ?_
        rintro e w1 ⟨rfl, rfl⟩
        go_wp2
        go_ret
        exact ⟨rfl, hbw⟩
      · obtain ⟨g, rfl⟩ := ho.form (by omega)
        have hg := (ho.lt rfl).2
        have hj : (Lib.join ((l.map senS).map (·.data.toList)) sp.data.toList).length ≤ 140737488355328 := by
          have h1 := menT_size (l := l) HG.out l.length
          rw [List.take_length] at h1
          have h2 : (menT l).size = (Lib.join ((l.map senS).map (·.data.toList)) sp.data.toList).length := by unfold menT joinS; simp [ByteArray.size]
          have := HL.out
          omega
        have hcap : (l.map senS).length ≤ d := by have := (ho.rd stV_len).cap; rw [List.length_map, HL.out]; exact this
        have hle : (l.map senS).length = k := by rw [List.length_map, HL.out]
        have hjn := Tryz.strings_Join g 0 d (l.map senS) sp wr (fun j x hx => by simpa using ho.cell stV_len (i := j) (j := 0) hx rfl) hg (by omega) hcap hj
        rw [hle] at hjn
        have HJ : Hid (Calls Tryz.prog 57 #[.slice (some ⟨g, 0, none⟩) k d, .string sp] wr fun e w' => e = .returned (.string (menT l)) ∧ Below wr.heap.size wr w') := hjn
        clear hjn hcap hle hj ho
        go_wp2_with fail
        refine HJ.out.mono ?_
        rintro e w1 ⟨rfl, b1⟩
        go_wp2
        go_ret
        exact ⟨rfl, below_trans hbw b1⟩


theorem menT_0 {l : List EN} {k : Nat} {x : EN} (hs : l[k]? = some x) (hk : k = 0) : menT (l.take (k + 1)) = senS x := by
  rw [menT_step hs, if_pos hk, ByteArray.empty_append]
theorem menT_1 {l : List EN} {k : Nat} {x : EN} (hs : l[k]? = some x) (hk : ¬ k = 0) : menT (l.take (k + 1)) = menT (l.take k) ++ sp ++ senS x := by
  rw [menT_step hs, if_neg hk]

set_option maxRecDepth 100000 in
set_option maxHeartbeats 1000000 in
theorem l21Join_any (A : Option Addr) (n c : Nat) (l : List EN) (w : World) (ha : Rd enV 7 w A n c l) (hg : l.all enOK = true) (hn : n ≤ 1048576) :
    Calls Tryz.prog 34 #[.slice A n c] w fun e w' => e = .returned (.string (menT l)) ∧ Below w.heap.size w w' := by
  have hm := ha.le
  have HL := Lib.hid ha.len
  have HG := Lib.hid hg
  clear hg
  go_enter Tryz.func34, Tryz.ntmps34
  go_wp2
  go_loopw [3, 4] (fun v i wr => ∃ k : Nat, k ≤ n ∧ i = .int .i64 k ∧ (∃ p, v = .string p ∧ p.size ≤ 201 * k ∧ p = menT (l.take k)) ∧ Below w.heap.size w wr) (fun _ i _ => n - (intOf i).toNat)
  case atStart => exact ⟨0, Nat.zero_le _, rfl, ⟨_, rfl, Nat.le_refl _, rfl⟩, Below.refl _ _⟩
  case round =>
    obtain ⟨k, hk, rfl, ⟨p, rfl, hp, hpp⟩, hbw⟩ := hrel
    have HP := Lib.hid hpp
    clear hpp
    by_cases hlt : k < n
    · obtain ⟨b1, o1, x, rfl, hs, c0, c1, c2, c3, c4, c5, c6⟩ := (ha.below hbw).en hlt
      have HS := Lib.hid hs
      have hok := Lib.hid (of_decide_eq_true (List.all_eq_true.1 HG.out x (List.mem_of_getElem? hs)))
      have hz := senS_size hok.out
      by_cases h0 : k = 0
      · have E := Lib.hid (menT_0 HS.out h0)
        have hp0 : p = ByteArray.empty := by rw [HP.out, h0]; rfl
        have h0' : ¬ (0 : Int) < (k : Int) := by omega
        subst hp0
        clear hs ha h0
        have z1 : (ByteArray.empty ++ senS x).size ≤ maxLen := by rw [ByteArray.size_append]; show 0 + _ ≤ 9223372036854775807; omega
        go_wp2_with fail
        refine (l21Text_any x _ hok.out).mono ?_
        rintro e w3 ⟨rfl, b3⟩
        go_wp2
        go_roundw
        case rel => exact ⟨k + 1, by omega, by go_num, ⟨_, rfl, by first | omega | (rw [ByteArray.size_append]; show 0 + _ ≤ _; omega), by first | rw [E.out] | (rw [E.out, ByteArray.empty_append])⟩, below_trans hbw b3⟩
        case measure => simp [intOf]; omega
      · have E := Lib.hid (menT_1 HS.out h0)
        have h0' : (0 : Int) < (k : Int) := by omega
        clear hs ha
        have z0 : (p ++ sp).size ≤ maxLen := by rw [ByteArray.size_append]; show _ + 1 ≤ 9223372036854775807; omega
        have z1 : (p ++ sp ++ senS x).size ≤ maxLen := by rw [ByteArray.size_append, ByteArray.size_append]; show _ + 1 + _ ≤ 9223372036854775807; omega
        unfold sp at z0 z1
        go_wp2_with fail
        refine (l21Text_any x _ hok.out).mono ?_
        rintro e w3 ⟨rfl, b3⟩
        go_wp2
        go_roundw
        case rel => exact ⟨k + 1, by omega, by go_num, ⟨_, rfl, by rw [ByteArray.size_append, ByteArray.size_append]; show _ + 1 + _ ≤ _; omega, by rw [E.out, HP.out]; rfl⟩, below_trans hbw b3⟩
        case measure => simp [intOf]; omega
    · obtain rfl : k = n := by omega
      have e : l.take k = l := List.take_of_length_le (by rw [HL.out]; exact Nat.le_refl _)
      have E : Hid (p = menT l) := by rw [HP.out, e]; rfl
      clear e ha
      go_wp2
      go_ret
      exact ⟨ret_str E.out, hbw⟩

def menL (l : List EN) : ByteArray := if minB l then menT l else ByteArray.empty
theorem minB_all {l : List EN} (h : minB l = true) : l.all enOK = true ∧ l.length ≤ 20 := ⟨by unfold minB at h; rw [Bool.and_eq_true] at h; exact h.1, min_len h⟩

theorem implMinutesText_any (A : Option Addr) (n c : Nat) (l : List EN) (w : World) (hT : Lib.TabIs Tryz.prog w "internal/strconv.uint64pow10" .u64 Lib.pow10Tab) (ha : Rd enV 7 w A n c l) (hsz : ∀ x ∈ l, EnSz x) :
    Calls Tryz.prog 13 #[.slice A n c] w fun e w' => e = .returned (.tuple #[.string (menL l), .bool (minB l)]) ∧ Below w.heap.size w w' := by
  have HL := Lib.hid ha.len
  cases h : minB l
  · have E := Lib.hid (show menL l = ByteArray.empty by simp [menL, h])
    have H := Lib.hid h
    go_enter Tryz.func13, Tryz.ntmps13
    go_wp2_with fail
    refine (isMinutes_any _ _ _ _ _ ha hsz).mono ?_
    rintro e w1 ⟨rfl, b1⟩
    rw [H.out]
    go_wp2
    go_ret2
    exact ⟨by rw [E.out]; rfl, b1⟩
  · have E := Lib.hid (show menL l = menT l by simp [menL, h])
    have H := Lib.hid h
    obtain ⟨g1, g2⟩ := minB_all h
    have G1 := Lib.hid g1
    have hn : n ≤ 1048576 := by have := HL.out; omega
    clear h g1 g2
    go_enter Tryz.func13, Tryz.ntmps13
    go_wp2_with fail
    refine (isMinutes_any _ _ _ _ _ ha hsz).mono ?_
    rintro e w1 ⟨rfl, b1⟩
    rw [H.out]
    go_wp2_with fail
    refine (minutesText_any _ _ _ _ _ (pow10_below hT b1) (ha.below b1) G1.out hn).mono ?_
    rintro e w2 ⟨rfl, b2⟩
    go_wp2
    go_ret2
    exact ⟨by rw [E.out]; rfl, below_trans b1 b2⟩

theorem specMinutesText_any (A : Option Addr) (n c : Nat) (l : List EN) (w : World) (ha : Rd enV 7 w A n c l) (hsz : ∀ x ∈ l, EnSz x) :
    Calls Tryz.prog 14 #[.slice A n c] w fun e w' => e = .returned (.tuple #[.string (menL l), .bool (minB l)]) ∧ Below w.heap.size w w' := by
  have HL := Lib.hid ha.len
  cases h : minB l
  · have E := Lib.hid (show menL l = ByteArray.empty by simp [menL, h])
    have H := Lib.hid h
    go_enter Tryz.func14, Tryz.ntmps14
    go_wp2_with fail
    refine (l21Good_any _ _ _ _ _ ha hsz).mono ?_
    rintro e w1 ⟨rfl, b1⟩
    rw [H.out]
    go_wp2
    go_ret2
    exact ⟨by rw [E.out]; rfl, b1⟩
  · have E := Lib.hid (show menL l = menT l by simp [menL, h])
    have H := Lib.hid h
    obtain ⟨g1, g2⟩ := minB_all h
    have G1 := Lib.hid g1
    have hn : n ≤ 1048576 := by have := HL.out; omega
    clear h g1 g2
    go_enter Tryz.func14, Tryz.ntmps14
    go_wp2_with fail
    refine (l21Good_any _ _ _ _ _ ha hsz).mono ?_
    rintro e w1 ⟨rfl, b1⟩
    rw [H.out]
    go_wp2_with fail
    refine (l21Join_any _ _ _ _ _ (ha.below b1) G1.out hn).mono ?_
    rintro e w2 ⟨rfl, b2⟩
    go_wp2
    go_ret2
    exact ⟨by rw [E.out]; rfl, below_trans b1 b2⟩

end Go.Proofs.YthphjncgbaknnaaGreatDoor
