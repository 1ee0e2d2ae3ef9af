/-
  YtflmokdeekjjiaaMinD: minutes: OpenMotions, both sides. (Printed by wip/gen/mind.py.)
-/
import Derived.Test.YtflmokdeekjjiaaMinC
import Derived.BigQuiet
import Derived.Deep.RegionLaw
import Derived.Deep.RegionHeld3
namespace Go.Proofs.Ytflmokdeekjjiaa
open Go Go.RowKit Go.Sort
set_option linter.unusedVariables false

/-- An entry that ends the question whether a motion is open. -/
def hit (m : ByteArray) (y : EN) : Bool := (y.mo.toList == m.toList) && (decide (y.kind = 4) || decide (y.kind = 2))
/-- The motions that are open among the first k entries. -/
def opF (l : List EN) (k : Nat) (i : Nat) (x : EN) : Option ByteArray := if decide (x.kind = 2) && !((l.take k).drop (i + 1)).any (hit x.mo) then some x.mo else none
def opP (l : List EN) (k : Nat) : List ByteArray := fm (opF l k) l k
/-- A list without a text. -/
def woB (r : List ByteArray) (m : ByteArray) : List ByteArray := r.filter (fun y => !(y.toList == m.toList))
theorem filterMap_same {α β : Type} {f g : α → Option β} {l : List α} (h : ∀ x ∈ l, f x = g x) : l.filterMap f = l.filterMap g := by
  induction l with
  | nil => rfl
  | cons a t ih => rw [List.filterMap_cons, List.filterMap_cons, h a (by simp), ih (fun x hx => h x (by simp [hx]))]
theorem fm_congr {α β : Type} {f g : Nat → α → Option β} {l : List α} {k : Nat} (h : ∀ i x, i < k → l[i]? = some x → f i x = g i x) : fm f l k = fm g l k := by
  unfold fm
  apply filterMap_same
  intro i hi
  cases hx : l[i]? with
  | none => rfl
  | some x => exact h i x (List.mem_range.1 hi) hx
theorem fm_filter {α β : Type} (f : Nat → α → Option β) (p : β → Bool) (l : List α) (k : Nat) : (fm f l k).filter p = fm (fun i x => (f i x).filter p) l k := by
  unfold fm
  rw [List.filter_filterMap]
  apply filterMap_same
  intro i _
  cases l[i]? with
  | none => rfl
  | some x => rfl
theorem take_drop_snoc {l : List EN} {k i : Nat} {y : EN} (hy : l[k]? = some y) (hi : i < k) : (l.take (k + 1)).drop (i + 1) = (l.take k).drop (i + 1) ++ [y] := by
  have hk := (List.getElem?_eq_some_iff.1 hy).1
  rw [List.take_add_one, hy, List.drop_append_of_le_length (by rw [List.length_take]; omega)]
  rfl
theorem opF_old {l : List EN} {k i : Nat} {x y : EN} (hy : l[k]? = some y) (hi : i < k) : opF l (k + 1) i x = if hit x.mo y then none else opF l k i x := by
  unfold opF
  rw [take_drop_snoc hy hi, List.any_append]
  cases h : hit x.mo y <;> simp [h]
theorem opF_new {l : List EN} {k : Nat} {x : EN} : opF l (k + 1) k x = if x.kind = 2 then some x.mo else none := by
  unfold opF
  rw [List.drop_eq_nil_of_le (by rw [List.length_take]; omega)]
  by_cases h : x.kind = 2 <;> simp [h]
/-- One entry more. -/
theorem opP_step {l : List EN} {k : Nat} {y : EN} (hy : l[k]? = some y) : opP l (k + 1) = if y.kind = 2 then woB (opP l k) y.mo ++ [y.mo] else if y.kind = 4 then woB (opP l k) y.mo else opP l k := by
  have hold : fm (opF l (k + 1)) l k = if y.kind = 2 ∨ y.kind = 4 then woB (opP l k) y.mo else opP l k := by
    by_cases h : y.kind = 2 ∨ y.kind = 4
    · rw [if_pos h]
      unfold woB opP
      rw [fm_filter]
      apply fm_congr
      intro i x hi hx
      rw [opF_old hy hi]
      have hh : hit x.mo y = (y.mo.toList == x.mo.toList) := by
        unfold hit
        have : (decide (y.kind = 4) || decide (y.kind = 2)) = true := by rcases h with h | h <;> simp [h]
        rw [this, Bool.and_true]
      have hb : (y.mo.toList == x.mo.toList) = (x.mo.toList == y.mo.toList) := BEq.comm
      rw [hh, hb]
      unfold opF
      cases hc : (x.mo.toList == y.mo.toList) <;> cases hd : (decide (x.kind = 2) && !((l.take k).drop (i + 1)).any (hit x.mo)) <;> simp [Option.filter, hc]
    · rw [if_neg h]
      unfold opP
      apply fm_congr
      intro i x hi hx
      rw [opF_old hy hi, if_neg]
      unfold hit
      have h1 : y.kind ≠ 2 := fun e => h (.inl e)
      have h2 : y.kind ≠ 4 := fun e => h (.inr e)
      simp [h1, h2]
  by_cases h2 : y.kind = 2
  · rw [if_pos h2]
    have : opP l (k + 1) = fm (opF l (k + 1)) l k ++ [y.mo] := fm_yes hy (by rw [opF_new, if_pos h2])
    rw [this, hold, if_pos (.inl h2)]
  · rw [if_neg h2]
    have : opP l (k + 1) = fm (opF l (k + 1)) l k := fm_no hy (by rw [opF_new, if_neg h2])
    rw [this, hold]
    by_cases h4 : y.kind = 4
    · rw [if_pos (.inr h4), if_pos h4]
    · rw [if_neg (fun h => h.elim h2 h4), if_neg h4]
theorem woB_len (r : List ByteArray) (m : ByteArray) : (woB r m).length ≤ r.length := List.length_filter_le _ _
theorem opP_len (l : List EN) (k : Nat) : (opP l k).length ≤ k := fm_len _ _ _
/-- OpenMotions's list. -/
def opL (l : List EN) : List ByteArray := if minB l then opP l l.length else []
theorem opL_no {l : List EN} (h : minB l = false) : opL l = [] := by simp [opL, h]
theorem opL_yes {l : List EN} (h : minB l = true) : opL l = opP l l.length := by simp [opL, h]
theorem opL_len (l : List EN) : (opL l).length ≤ l.length := by unfold opL; split; exact opP_len _ _; simp
theorem opF_all {l : List EN} {i : Nat} {x : EN} : opF l l.length i x = if decide (x.kind = 2) && !(l.drop (i + 1)).any (hit x.mo) then some x.mo else none := by
  unfold opF; rw [List.take_length]


set_option maxRecDepth 100000 in
theorem hit_any (y : EN) (q : Nat) (m : ByteArray) (w : World) (hq : w.cell? ⟨q, 2, none⟩ = some (.string m)) :
    Calls Try.prog 48 #[.agg #[.int .i64 y.kind, .string y.who, .string y.mo, .int .i64 y.yes, .int .i64 y.no, .int .i64 y.ab, .bool y.pa], .pointer (some ⟨q, 0, none⟩)] w fun e w' => e = .returned (.bool (hit m y)) ∧ Below w.heap.size w w' := by
  obtain ⟨kind, who, mo, yes, no, ab, pa⟩ := y
  have hlt := lt_of_cell hq
  have hne : ¬(q = w.heap.size) := by simp only at hlt; omega
  go_enter Try.func48, Try.ntmps48
  go_wp2
  all_goals go_ret
  all_goals exact ⟨ret_bool (by rw [Bool.eq_iff_iff]; first | (simp [hit]; done) | (simp_all [hit]; done) | (simp_all [hit]; omega)), below_alloc _⟩

set_option maxRecDepth 100000 in
set_option maxHeartbeats 1000000 in
theorem IndexHit_any (A : Option Addr) (n c : Nat) (l : List EN) (q : Nat) (m : ByteArray) (w : World) (ha : Rd enV 7 w A n c l) (hq : w.cell? ⟨q, 2, none⟩ = some (.string m)) :
    Calls Try.prog 58 #[.slice A n c, .func (.func 48) #[] #[.pointer (some ⟨q, 0, none⟩)]] w fun e w' => (∃ r : Int, e = .returned (.int .i64 r) ∧ decide (0 ≤ r) = l.any (hit m)) ∧ Below w.heap.size w w' := by
  have hm := ha.le
  have HL := Lib.hid ha.len
  go_enter Try.func58, Try.ntmps58
  go_wp2
  go_loopw [8] (fun i wr => ∃ k : Nat, k ≤ n ∧ i = .int .i64 k ∧ (∀ j x, j < k → l[j]? = some x → hit m x = false) ∧ Below w.heap.size w wr) (fun i _ => n - (intOf i).toNat)
  case atStart => exact ⟨0, Nat.zero_le _, rfl, fun j x hj => absurd hj (by omega), Below.refl _ _⟩
  case round =>
    obtain ⟨k, hk, rfl, hup, hbw⟩ := hrel
    have HU := Lib.hid hup
    clear hup
    by_cases hlt : k < n
    · obtain ⟨b1, o1, x, rfl, hs, c0, c1, c2, c3, c4, c5, c6⟩ := (ha.below hbw).en hlt
      have HS := Lib.hid hs
      have hqr := cell_below hbw hq
      clear hs ha hq
      go_wp2_with fail
      refine (hit_any x q m _ hqr).mono ?_
      rintro e w2 ⟨rfl, b2⟩
      have t2 := below_trans hbw b2
      cases h1 : hit m x
      · have HN : Hid (∀ j x, j < k + 1 → l[j]? = some x → hit m x = false) := fun j y hj hy => by
          by_cases e : j = k
          · subst e; rw [HS.out] at hy; injection hy with hy; rw [← hy]; exact h1
          · exact HU.out j y (by omega) hy
        go_wp2
        go_roundw
        case rel => exact ⟨k + 1, by omega, by go_num, HN.out, t2⟩
        case measure => simp [intOf]; omega
      · have E := Lib.hid (show l.any (hit m) = true from List.any_eq_true.2 ⟨x, List.mem_of_getElem? HS.out, h1⟩)
        go_wp2
        go_ret
        exact ⟨⟨_, rfl, by rw [E.out]; simp⟩, t2⟩
    · obtain rfl : k = n := by omega
      have E := Lib.hid (show l.any (hit m) = false by
        rw [List.any_eq_false]
        intro x hx
        obtain ⟨j, hj⟩ := List.mem_iff_getElem?.1 hx
        rw [HU.out j x (by rw [← HL.out]; exact (List.getElem?_eq_some_iff.1 hj).1) hj]
        simp)
      clear ha
      go_wp2
      go_ret
      exact ⟨⟨_, rfl, by rw [E.out]; simp⟩, hbw⟩

set_option maxRecDepth 100000 in
theorem ContainsHit_any (A : Option Addr) (n c : Nat) (l : List EN) (q : Nat) (m : ByteArray) (w : World) (ha : Rd enV 7 w A n c l) (hq : w.cell? ⟨q, 2, none⟩ = some (.string m)) :
    Calls Try.prog 42 #[.slice A n c, .func (.func 48) #[] #[.pointer (some ⟨q, 0, none⟩)]] w fun e w' => e = .returned (.bool (l.any (hit m))) ∧ Below w.heap.size w w' := by
  go_enter Try.func42, Try.ntmps42
  go_wp2_with fail
  refine (IndexHit_any _ _ _ _ _ _ _ ha hq).mono ?_
  rintro e w2 ⟨⟨r, rfl, hr⟩, b2⟩
  have HR := Lib.hid hr
  clear hr
  go_wp2
  go_ret
  exact ⟨ret_bool HR.out, b2⟩


set_option maxRecDepth 100000 in
set_option maxHeartbeats 2000000 in
theorem implOpen_any (A : Option Addr) (n c : Nat) (l : List EN) (w : World) (ha : Rd enV 7 w A n c l) (hg : ∀ x ∈ l, EnSz x) :
    Calls Try.prog 30 #[.slice A n c] w fun e w' => (∃ B q d, e = .returned (.tuple #[.slice B q d, .bool (minB l)]) ∧ Own stV 1 w' w.heap.size 9 B q d (opL l)) ∧ Below w.heap.size w w' := by
  obtain ⟨i0, hi, hz0, hz1, hz2⟩ := info_parts Try.infoSt'
  have HL := Lib.hid ha.len
  have hmm := ha.le
  have hcap := ha.cap
  go_enter Try.func30, Try.ntmps30
  go_wp2_with fail
  refine (isMinutes_any _ _ _ _ _ ha hg).mono ?_
  rintro e w1 ⟨rfl, b1⟩
  cases h1 : minB l
  · have E := Lib.hid h1
    clear ha
    go_wp2
    go_ret2
    exact ⟨⟨_, _, _, ret_sl_bool E.out.symm, by rw [opL_no E.out]; exact Own.nil _ _ _⟩, b1⟩
  have hn20 : n ≤ 20 := by rw [← ha.len]; exact min_len h1
  have H1 := Lib.hid h1
  clear h1 hg
  have oe := Own.empty stV 1 w1 9
  go_wp2
  go_loopw [4, 13] (fun v i wr => ∃ k : Nat, k ≤ n ∧ i = .int .i64 k ∧ (∃ B q d, v = .slice B q d ∧ q ≤ k ∧ Own stV 1 wr w1.heap.size 9 B q d (fm (opF l l.length) l k)) ∧ Below w1.heap.size w1 wr) (fun _ i _ => n - (intOf i).toNat)
  case atStart => exact ⟨0, Nat.zero_le _, rfl, ⟨_, 0, 0, rfl, Nat.le_refl _, oe⟩, below_alloc _⟩
  case round =>
    clear oe
    obtain ⟨k, hk, rfl, ⟨B, q, d, rfl, hq, ho⟩, hbw⟩ := hrel
    by_cases hlt : k < n
    · have har := ha.below (below_trans b1 hbw)
      obtain ⟨b3, o3, x, rfl, hs, c0, c1, c2, c3, c4, c5, c6⟩ := har.en hlt
      have HS := Lib.hid hs
      have hrest := har.drop (k := k + 1) (by omega)
      clear hs ha har
      by_cases h5 : x.kind = 2
      rotate_left
      · have E := Lib.hid (fm_no (f := opF l l.length) HS.out (show _ = none by rw [opF_all, decide_eq_false h5]; rfl))
        go_wp2
        go_roundw
        case rel => exact ⟨k + 1, by omega, by go_num, ⟨B, q, d, rfl, by omega, by rw [E.out]; exact ho.alloc _⟩, below_trans hbw (below_alloc _)⟩
        case measure => simp [intOf]; omega
      have H5 := Lib.hid h5
      rw [h5] at c0
      clear h5
      have bx := below_alloc (w := wr) (.cells #[.int .i64 2, .string x.who, .string x.mo, .int .i64 x.yes, .int .i64 x.no, .int .i64 x.ab, .bool x.pa] 30)
      have q0 := fun i => cell_of_row (wr.alloc (.cells #[.int .i64 2, .string x.who, .string x.mo, .int .i64 x.yes, .int .i64 x.no, .int .i64 x.ab, .bool x.pa] 30)) wr.heap.size i _ _ _ (heap_new rfl)
      have d2 : (wr.alloc (.cells #[.int .i64 2, .string x.who, .string x.mo, .int .i64 x.yes, .int .i64 x.no, .int .i64 x.ab, .bool x.pa] 30)).cell? ⟨wr.heap.size, 2, none⟩ = some (.string x.mo) := q0 2
      clear q0
      have hrest2 := hrest.below bx
      have hoa := ho.below bx
      have hba := below_trans hbw bx
      clear hrest ho hbw
      by_cases hkc : k + 1 = c
      · have hr0 : Rd enV 7 (wr.alloc (.cells #[.int .i64 2, .string x.who, .string x.mo, .int .i64 x.yes, .int .i64 x.no, .int .i64 x.ab, .bool x.pa] 30)) (some ⟨b3, o3, none⟩) 0 0 (l.drop (k + 1)) := by
          rw [List.drop_eq_nil_of_le (by rw [HL.out]; omega)]
          exact ⟨rfl, Nat.le_refl _, by simp [maxLen], (fun e => by cases e), fun h => absurd h (by omega)⟩
        have hkn : k + 1 = n := by omega
        subst hkc
        obtain rfl := hkn
        go_wp2_with fail
        refine (ContainsHit_any _ _ _ (l.drop (k + 1)) wr.heap.size x.mo _ hr0 d2).mono ?_
        rintro e w5 ⟨rfl, b5⟩
        replace d2 := cell_below b5 d2
        have ho5 := hoa.below b5
        have hb5 := below_trans hba b5
        cases h6 : (l.drop (k + 1)).any (hit x.mo)
        · have E := Lib.hid (fm_yes (f := opF l l.length) HS.out (show _ = some x.mo by rw [opF_all, h6, decide_eq_true H5.out]; rfl))
          clear h6
          go_wp2_with (at_builtin; refine wpList_push rfl _ _ _ rfl w1.heap.size 9 i0 (.string ByteArray.empty) 1 16 Try.underlying41 hi hz0 hz1 hz2 rfl (by omega) stV stV_len one_str B q d _ rfl ho5 x.mo _ rfl _ rfl (by first | rfl | simp) (by simp only [maxLen]; omega) (by omega) hb5.size ?_; intro B3 d3 w3 ho3 hg3)
          go_roundw
          case rel => first | exact ⟨k + 1, by omega, by go_num, ⟨B3, q + 1, d3, rfl, by omega, by rw [E.out]; exact ho3⟩, below_push hb5 ho5 hg3 (Nat.le_refl _)⟩ | ((repeat apply Exists.intro); exact ⟨⟨k + 1, by omega, by go_num, ⟨B3, q + 1, d3, rfl, by omega, by rw [E.out]; exact ho3⟩, below_push hb5 ho5 hg3 (Nat.le_refl _)⟩, rfl⟩)
          case measure => first | omega | (simp [intOf]; done) | (simp [intOf]; omega)
        · have E := Lib.hid (fm_no (f := opF l l.length) HS.out (show _ = none by rw [opF_all, h6]; simp))
          clear h6
          go_wp2
          go_roundw
          case rel => first | exact ⟨k + 1, by omega, by go_num, ⟨B, q, d, rfl, by omega, by rw [E.out]; exact ho5⟩, hb5⟩ | ((repeat apply Exists.intro); exact ⟨⟨k + 1, by omega, by go_num, ⟨B, q, d, rfl, by omega, by rw [E.out]; exact ho5⟩, hb5⟩, rfl⟩)
          case measure => first | omega | (simp [intOf]; done) | (simp [intOf]; omega)
      · have hkn : k + 1 ≤ n := hlt
        go_wp2_with fail
        refine (ContainsHit_any _ _ _ (l.drop (k + 1)) wr.heap.size x.mo _ hrest2 d2).mono ?_
        rintro e w5 ⟨rfl, b5⟩
        replace d2 := cell_below b5 d2
        have ho5 := hoa.below b5
        have hb5 := below_trans hba b5
        cases h6 : (l.drop (k + 1)).any (hit x.mo)
        · have E := Lib.hid (fm_yes (f := opF l l.length) HS.out (show _ = some x.mo by rw [opF_all, h6, decide_eq_true H5.out]; rfl))
          clear h6
          go_wp2_with (at_builtin; refine wpList_push rfl _ _ _ rfl w1.heap.size 9 i0 (.string ByteArray.empty) 1 16 Try.underlying41 hi hz0 hz1 hz2 rfl (by omega) stV stV_len one_str B q d _ rfl ho5 x.mo _ rfl _ rfl (by first | rfl | simp) (by simp only [maxLen]; omega) (by omega) hb5.size ?_; intro B3 d3 w3 ho3 hg3)
          go_roundw
          case rel => first | exact ⟨k + 1, by omega, by go_num, ⟨B3, q + 1, d3, rfl, by omega, by rw [E.out]; exact ho3⟩, below_push hb5 ho5 hg3 (Nat.le_refl _)⟩ | ((repeat apply Exists.intro); exact ⟨⟨k + 1, by omega, by go_num, ⟨B3, q + 1, d3, rfl, by omega, by rw [E.out]; exact ho3⟩, below_push hb5 ho5 hg3 (Nat.le_refl _)⟩, rfl⟩)
          case measure => first | omega | (simp [intOf]; done) | (simp [intOf]; omega)
        · have E := Lib.hid (fm_no (f := opF l l.length) HS.out (show _ = none by rw [opF_all, h6]; simp))
          clear h6
          go_wp2
          go_roundw
          case rel => first | exact ⟨k + 1, by omega, by go_num, ⟨B, q, d, rfl, by omega, by rw [E.out]; exact ho5⟩, hb5⟩ | ((repeat apply Exists.intro); exact ⟨⟨k + 1, by omega, by go_num, ⟨B, q, d, rfl, by omega, by rw [E.out]; exact ho5⟩, hb5⟩, rfl⟩)
          case measure => first | omega | (simp [intOf]; done) | (simp [intOf]; omega)
    · obtain rfl : k = n := by omega
      have E := Lib.hid (show fm (opF l l.length) l k = opL l by rw [opL_yes H1.out, HL.out]; rfl)
      clear ha
      go_wp2
      go_ret2
      exact ⟨⟨_, _, _, ret_sl_bool H1.out.symm, by rw [← E.out]; exact ho.base_le b1.size⟩, below_trans b1 hbw⟩


theorem woB_take_yes {r : List ByteArray} {m y : ByteArray} {k : Nat} (hy : r[k]? = some y) (h : (y.toList == m.toList) = false) : woB (r.take (k + 1)) m = woB (r.take k) m ++ [y] := by
  unfold woB; rw [List.take_add_one, hy, List.filter_append]; simp [h]
theorem woB_take_no {r : List ByteArray} {m y : ByteArray} {k : Nat} (hy : r[k]? = some y) (h : (y.toList == m.toList) = true) : woB (r.take (k + 1)) m = woB (r.take k) m := by
  unfold woB; rw [List.take_add_one, hy, List.filter_append]; simp [h]

set_option maxRecDepth 100000 in
set_option maxHeartbeats 1000000 in
theorem l21Without_any (A : Option Addr) (n c : Nat) (r : List ByteArray) (m : ByteArray) (w : World) (ha : Rd stV 1 w A n c r) (hn : n ≤ 1048576) :
    Calls Try.prog 47 #[.slice A n c, .string m] w fun e w' => (∃ B q d, e = .returned (.slice B q d) ∧ Own stV 1 w' w.heap.size 9 B q d (woB r m)) ∧ Below w.heap.size w w' := by
  obtain ⟨i0, hi, hz0, hz1, hz2⟩ := info_parts Try.infoSt'
  have HL := Lib.hid ha.len
  have oe := Own.empty stV 1 w 9
  go_enter Try.func47, Try.ntmps47
  go_wp2
  go_loopw [5, 6] (fun v i wr => ∃ k : Nat, k ≤ n ∧ i = .int .i64 k ∧ (∃ B q d, v = .slice B q d ∧ q ≤ k ∧ Own stV 1 wr w.heap.size 9 B q d (woB (r.take k) m)) ∧ Below w.heap.size w wr) (fun _ i _ => n - (intOf i).toNat)
  case atStart => exact ⟨0, Nat.zero_le _, rfl, ⟨_, 0, 0, rfl, Nat.le_refl _, oe⟩, below_alloc _⟩
  case round =>
    clear oe
    obtain ⟨k, hk, rfl, ⟨B, q, d, rfl, hq, ho⟩, hbw⟩ := hrel
    by_cases hlt : k < n
    · obtain ⟨b1, o1, y, rfl, hs, c0⟩ := (ha.below hbw).st hlt
      have HS := Lib.hid hs
      clear hs ha
      cases h5 : (y.toList == m.toList)
      · have E := Lib.hid (woB_take_yes HS.out h5)
        have h5' : (y.toList != m.toList) = true := by unfold bne; rw [h5]; rfl
        go_wp2_with (at_builtin; refine wpList_push rfl _ _ _ rfl w.heap.size 9 i0 (.string ByteArray.empty) 1 16 Try.underlying41 hi hz0 hz1 hz2 rfl (by omega) stV stV_len one_str B q d _ rfl ho y _ rfl _ rfl (by first | rfl | simp) (by simp only [maxLen]; omega) (by omega) hbw.size ?_; intro B3 d3 w3 ho3 hg3)
        go_roundw
        case rel => exact ⟨k + 1, by omega, by go_num, ⟨B3, q + 1, d3, rfl, by omega, by rw [E.out]; exact ho3⟩, below_push hbw ho hg3 (Nat.le_refl _)⟩
        case measure => simp [intOf]; omega
      · have E := Lib.hid (woB_take_no HS.out h5)
        have h5' : (y.toList != m.toList) = false := by unfold bne; rw [h5]; rfl
        go_wp2
        go_roundw
        case rel => exact ⟨k + 1, by omega, by go_num, ⟨B, q, d, rfl, by omega, by rw [E.out]; exact ho⟩, hbw⟩
        case measure => simp [intOf]; omega
    · obtain rfl : k = n := by omega
      have E := Lib.hid (show woB (r.take k) m = woB r m by rw [List.take_of_length_le (by rw [HL.out]; exact Nat.le_refl _)])
      clear ha
      go_wp2
      go_ret
      exact ⟨⟨_, _, _, rfl, by rw [← E.out]; exact ho⟩, hbw⟩


set_option maxRecDepth 100000 in
set_option maxHeartbeats 2000000 in
theorem specOpen_any (A : Option Addr) (n c : Nat) (l : List EN) (w : World) (ha : Rd enV 7 w A n c l) (hg : ∀ x ∈ l, EnSz x) :
    Calls Try.prog 29 #[.slice A n c] w fun e w' => (∃ B q d, e = .returned (.tuple #[.slice B q d, .bool (minB l)]) ∧ Own stV 1 w' w.heap.size 9 B q d (opL l)) ∧ Below w.heap.size w w' := by
  obtain ⟨i0, hi, hz0, hz1, hz2⟩ := info_parts Try.infoSt'
  have HL := Lib.hid ha.len
  have hmm := ha.le
  have hcap := ha.cap
  have oe := Own.empty stV 1 w 9
  have b0 := below_alloc (w := w) (.cells #[] 9)
  go_enter Try.func29, Try.ntmps29
  go_wp2_with fail
  generalize hgw0 : w.alloc (.cells #[] 9) = w0 at *
  clear hgw0
  refine (l21Good_any _ _ _ _ _ (ha.below b0) hg).mono ?_
  rintro e w1 ⟨rfl, b1⟩
  replace oe := oe.below b1
  replace b1 := below_trans b0 b1
  clear b0
  cases h1 : minB l
  · have E := Lib.hid h1
    clear ha
    go_wp2
    go_ret2
    exact ⟨⟨_, _, _, ret_sl_bool E.out.symm, by rw [opL_no E.out]; exact oe⟩, b1⟩
  have hn20 : n ≤ 20 := by rw [← ha.len]; exact min_len h1
  have H1 := Lib.hid h1
  clear h1 hg
  go_wp2
  go_loopw [4, 5] (fun v i wr => ∃ k : Nat, k ≤ n ∧ i = .int .i64 k ∧ (∃ B q d, v = .slice B q d ∧ Own stV 1 wr w.heap.size 9 B q d (opP l k)) ∧ Below w.heap.size w wr) (fun _ i _ => n - (intOf i).toNat)
  case atStart => exact ⟨0, Nat.zero_le _, rfl, ⟨_, 0, 0, rfl, oe⟩, b1⟩
  case round =>
    clear oe b1
    obtain ⟨k, hk, rfl, ⟨B, q, d, rfl, ho⟩, hbw⟩ := hrel
    have hq : q ≤ k := by rw [← ho.len]; exact opP_len _ _
    by_cases hlt : k < n
    · obtain ⟨b3, o3, x, rfl, hs, c0, c1, c2, c3, c4, c5, c6⟩ := ha.en hlt
      have HS := Lib.hid hs
      have EP := Lib.hid (opP_step hs)
      have C2 := Lib.hid c2
      replace c0 := cell_below hbw c0
      replace c2 := cell_below hbw c2
      clear c1 c3 c4 c5 c6
      have hor := ho.rd stV_len
      clear hs ha
      by_cases h5 : x.kind = 2
      · have E := Lib.hid (show opP l (k + 1) = woB (opP l k) x.mo ++ [x.mo] by rw [EP.out, if_pos h5])
        have hk0 : (0 : Int) ≤ (k : Int) := by omega
        have hkn : (k : Int) < (n : Int) := by omega
        have h5' : (x.kind == 2) = true := by simpa using h5
        have hqn : q ≤ 1048576 := by omega
        clear h5
        go_wp2_with fail
        go_region_held3 (fun w' => w'.cell? ⟨b3, o3 + k * 7 + 2, none⟩ = some (.string x.mo)) (first | go_keep | exact cell_below bcall C2.out | exact cell_below bz C2.out)
          (first
            | (go_at_call 47; refine (l21Without_any _ _ _ (opP l k) x.mo _ ?_ hqn).mono ?_
               · first | exact hor | exact hor.drew | exact hor.alloc _ | exact (hor.alloc _).drew | exact hor.drew.alloc _
               rintro e wa ⟨⟨Ba, qa, da, rfl, oa⟩, ba⟩
               have hqa : qa ≤ k := Nat.le_trans (Nat.le_of_eq oa.len.symm) (Nat.le_trans (woB_len _ _) (opP_len _ _))
               have bcall : Below w.heap.size w wa := by first | exact below_trans hbw ba | exact below_trans hbw.drew ba | exact below_trans (below_trans hbw (below_alloc _)) ba | exact below_trans (below_trans hbw (below_alloc _)).drew ba | exact below_trans (below_trans hbw.drew (below_alloc _)) ba
               have oA : Own stV 1 wa w.heap.size 9 Ba qa da (woB (opP l k) x.mo) := by first | exact oa.base_le hbw.size | exact oa.base_le hbw.drew.size | exact oa.base_le (below_trans hbw (below_alloc _)).size | exact oa.base_le (below_trans hbw (below_alloc _)).drew.size | exact oa.base_le (below_trans hbw.drew (below_alloc _)).size)
            | (refine step_pushAll rfl (.tmp 30) (.tmp 36) _ rfl w.heap.size 9 i0 _ 1 16 Try.underlying41 hi hz0 hz1 hz2 rfl (by omega) stV stV_len one_str _ qa _ (woB (opP l k) x.mo) _ 1 1 [x.mo] rfl rfl (qa + 1) rfl ?_ ?_ ?_ ?_ ?_ ?_
               · simp only [maxLen]; omega
               · omega
               · first | exact bcall.size | exact (below_trans bcall (below_alloc _)).size
               · first | exact oA | exact oA.alloc _ | exact (oA.alloc _).drew
               · first | exact Rd.of_block (heap_new (by simp)) rfl | exact (Rd.of_block (enc := stV) (sz := 1) (y := x.mo) (heap_new rfl) rfl).below ba | exact (Rd.of_block (heap_new (by simp)) rfl).drew | exact ((Rd.of_block (enc := stV) (sz := 1) (y := x.mo) (heap_new rfl) rfl).drew).below ba
               intro B2 d2 w2 o2 g2
               have bz := (by first | exact below_push bcall oA g2 (Nat.le_refl _) | exact below_push (below_trans bcall (below_alloc _)) (oA.alloc _) g2 (Nat.le_refl _) | exact below_push (below_trans bcall (below_alloc _)).drew (oA.alloc _).drew g2 (Nat.le_refl _) : Below w.heap.size w w2)))
        all_goals
          go_wp2
          go_roundw
          case rel => exact ⟨k + 1, by omega, by go_num, ⟨B2, qa + 1, d2, rfl, by rw [E.out]; exact o2⟩, bz⟩
          case measure => first | omega | (simp [intOf]; done) | (simp [intOf]; omega)
      · have h5' : (x.kind == 2) = false := by simpa using h5
        by_cases h6 : x.kind = 4
        · have E := Lib.hid (show opP l (k + 1) = woB (opP l k) x.mo by rw [EP.out, if_neg h5, if_pos h6])
          go_wp2_with fail
          refine (l21Without_any _ _ _ (opP l k) x.mo _ hor (by omega)).mono ?_
          rintro e w5 ⟨⟨B5, q5, d5, rfl, o5⟩, b5⟩
          go_wp2
          go_roundw
          case rel => exact ⟨k + 1, by omega, by go_num, ⟨B5, q5, d5, rfl, by rw [E.out]; exact o5.base_le hbw.size⟩, below_trans hbw b5⟩
          case measure => simp [intOf]; omega
        · have E := Lib.hid (show opP l (k + 1) = opP l k by rw [EP.out, if_neg h5, if_neg h6])
          have h6' : (x.kind == 4) = false := by simpa using h6
          go_wp2
          go_roundw
          case rel => exact ⟨k + 1, by omega, by go_num, ⟨B, q, d, rfl, by rw [E.out]; exact ho⟩, hbw⟩
          case measure => simp [intOf]; omega
    · obtain rfl : k = n := by omega
      have E := Lib.hid (show opP l k = opL l by rw [opL_yes H1.out, HL.out])
      clear ha
      go_wp2
      go_ret2
      exact ⟨⟨_, _, _, ret_sl_bool H1.out.symm, by rw [← E.out]; exact ho⟩, hbw⟩


end Go.Proofs.Ytflmokdeekjjiaa
