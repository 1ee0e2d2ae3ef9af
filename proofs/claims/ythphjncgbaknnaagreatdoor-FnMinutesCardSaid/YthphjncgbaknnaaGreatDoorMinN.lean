/-
  YthphjncgbaknnaaGreatDoorMinN: ParseMinutes on the program's side, by contracts. (Printed by wip/gen/minn.py.)
-/
import Derived.Test.YthphjncgbaknnaaGreatDoorMinK
import Derived.Test.YthphjncgbaknnaaGreatDoorMinI
namespace Go.Proofs.YthphjncgbaknnaaGreatDoor
open Go Go.RowKit Go.Sort
set_option linter.unusedVariables false
set_option linter.unusedSimpArgs false

def saS (s : ByteArray) : List ByteArray := Lib.splitB dsp 2 (min (Lib.countB s dsp) s.size) s
theorem sa_len (s : ByteArray) : (saS s).length ≤ s.size + 1 := by
  have := Lib.splitB_length_le dsp 2 (min (Lib.countB s dsp) s.size) s
  unfold saS
  omega
theorem sa_men {s : ByteArray} {l : List EN} (hl : minB l = true) (e : menT l = s) (hs : s.size ≠ 0) : saS s = pcs l := by
  subst e
  have hn : l ≠ [] := fun h => by subst h; exact hs rfl
  have h1 := count_men (minB_ok hl)
  have h2 := Lib.countB_le dsp (by decide) (menT l).size (menT l) (Nat.le_refl _)
  exact split_men (minB_ok hl) hn _ (by omega)
theorem sa_bad {s : ByteArray} {l : List EN} (hl : minB l = true) (e : menT l = s) (hs : s.size ≠ 0) {k : Nat} {p : ByteArray} (hp : (saS s)[k]? = some p) : ∃ y, l[k]? = some y ∧ parE (trimP p) = (y, true) ∧ (saS s).length ≤ 20 := by
  rw [sa_men hl e hs] at hp ⊢
  have hk := (List.getElem?_eq_some_iff.1 hp).1
  rw [pcs_len] at hk ⊢
  have hy : l[k]? = some l[k] := List.getElem?_eq_getElem hk
  obtain ⟨q, hq, ht⟩ := pcs_at (minB_ok hl) hy
  rw [hp] at hq
  cases hq
  exact ⟨_, hy, by rw [ht]; exact parE_hit (decide_eq_true (minB_ok hl _ (List.getElem_mem hk))) rfl, (minB_all hl).2⟩
theorem sa_same {s : ByteArray} {L l : List EN} (hl : minB l = true) (e : menT l = s) (hs : s.size ≠ 0) (hL : L.length = (saS s).length) (h : ∀ (j : Nat) (x : EN), L[j]? = some x → ∃ p, (saS s)[j]? = some p ∧ parE (trimP p) = (x, true)) : L = l := by
  have hlen : (saS s).length = l.length := by rw [sa_men hl e hs, pcs_len]
  apply List.ext_getElem?
  intro j
  by_cases hj : j < L.length
  · have hx : L[j]? = some L[j] := List.getElem?_eq_getElem hj
    obtain ⟨p, hp, he⟩ := h j _ hx
    obtain ⟨y, hy, he2, _⟩ := sa_bad hl e hs hp
    have e1 := (Prod.mk.inj (he.symm.trans he2)).1
    rw [hx, hy, e1]
  · rw [List.getElem?_eq_none (by omega), List.getElem?_eq_none (by omega)]
theorem sa_size : ∀ (k : Nat) (s : ByteArray), ∀ p ∈ Lib.splitB dsp 2 k s, p.size ≤ s.size
  | 0, s, p, h => by rw [Lib.splitB_zero] at h; simp at h; rw [h]; exact Nat.le_refl _
  | k + 1, s, p, h => by
    unfold Lib.splitB at h
    split at h
    · simp at h; rw [h]; exact Nat.le_refl _
    · rcases List.mem_cons.1 h with rfl | h
      · rw [ByteArray.size_extract]; omega
      · have := sa_size k _ p h
        rw [ByteArray.size_extract] at this
        omega
theorem saS_pos (s : ByteArray) : 0 < (saS s).length := by
  unfold saS
  generalize min (Lib.countB s dsp) s.size = k
  cases k with
  | zero => rw [Lib.splitB_zero]; exact Nat.one_pos
  | succ k => unfold Lib.splitB; split <;> simp
theorem ltn_t {a b : ByteArray} (h : a = b) : (a.toList != b.toList) = false := by rw [h]; simp
theorem ltn_f {a b : ByteArray} (h : a ≠ b) : (a.toList != b.toList) = true := by rw [bne, bytes_eq_f h]; rfl
theorem Own.ne_block {α β : Type} {enc : α → List Value} {enc' : β → List Value} {sz sz' : Nat} {w : World} {base base' : Nat} {e e' : TypeId} {A A' : Option Addr} {n c n' c' : Nat} {l : List α} {l' : List β} (h : Own enc sz w base e A n c l) (h' : Own enc' sz' w base' e' A' n' c' l') (he : e ≠ e') : blockOf A = none ∨ blockOf A ≠ blockOf A' := by
  rcases h.row.2 with ⟨h0, _⟩ | ⟨g, cap, cur, hv, hb, hg, _⟩
  · injection h0 with h0; subst h0; exact .inl rfl
  · injection hv with hv; subst hv
    right
    intro hE
    rcases h'.row.2 with ⟨h0, _⟩ | ⟨g', cap', cur', hv', hb', hg', _⟩
    · injection h0 with h0; subst h0; simp [blockOf] at hE
    · injection hv' with hv'; subst hv'
      have e1 : g = g' := by simpa [blockOf] using hE
      subst e1
      rw [hg] at hg'
      injection hg' with hg'
      injection hg' with _ h2
      exact he h2
theorem trimP_size (s : ByteArray) : (trimP s).size ≤ s.size := by
  unfold trimP
  show (Lib.trimSuffix s.data.toList [32]).toArray.size ≤ s.data.toList.length
  rw [List.size_toArray]
  unfold Lib.trimSuffix
  split
  · rw [List.length_take]; exact Nat.min_le_right _ _
  · exact Nat.le_refl _

set_option maxHeartbeats 400000 in
theorem SplitAfter_any (s : ByteArray) (mx : Int) (w : World) (hs : s.size ≤ 1048576) (hM : w.cell? ⟨0, 0, none⟩ = some (.int .i64 mx)) :
    Calls Tryz.prog 35 #[.string s, .string ⟨#[46, 32]⟩] w fun e w' => (∃ n c, e = .returned (.slice (some ⟨w.heap.size, 0, none⟩) n c) ∧ Own stV 1 w' w.heap.size 9 (some ⟨w.heap.size, 0, none⟩) n c (saS s)) ∧ Below w.heap.size w w' := by
  have HM := Lib.hid hM
  have hlen := Lib.splitB_length_le dsp 2 (min (Lib.countB s dsp) s.size) s
  obtain ⟨N, hN⟩ : ∃ N, N = min (Lib.countB s dsp + 1) (s.size + 1) := ⟨_, rfl⟩
  have hN1 : N - 1 = min (Lib.countB s dsp) s.size := by omega
  have hN2 : N ≤ s.size + 1 := by omega
  have HC := Lib.hid (Tryz.strings_genSplit s dsp 2 (-1) N mx w (by omega) HM.out (by decide) (by decide) (by decide) (by decide) (by rw [if_pos (by decide)]; omega))
  have HL : Hid ((saS s).length ≤ N) := by show _ ≤ _; unfold saS; omega
  have HN1 := Lib.hid hN1
  clear hM hlen hN hN1
  go_enter Tryz.func35, Tryz.ntmps35
  go_wp2_with fail
  refine HC.out.mono ?_
  rintro e w1 ⟨rfl, hw1⟩
  rw [HN1.out] at hw1 ⊢
  subst hw1
  go_wp2
  go_ret
  have hln := HL.out
  refine ⟨⟨_, _, rfl, ⟨rfl, (by rw [flat_len stV_len]; rfl), .inr ⟨_, _, _, rfl, Nat.le_refl _, heap_new rfl, hln, (by simp only [maxLen]; omega), (by rw [Nat.mul_one]; exact Lib.cellsOf_size hln), ?_⟩⟩⟩, below_alloc _⟩
  rw [flat_st]
  unfold Lib.cellsOf
  show List.take _ ((saS s).map Value.string ++ _) = _
  rw [List.take_append_of_le_length (by rw [List.length_map, Nat.mul_one]; exact Nat.le_refl _)]
  exact List.take_of_length_le (by rw [List.length_map, Nat.mul_one]; exact Nat.le_refl _)

set_option maxRecDepth 100000 in
set_option maxHeartbeats 4000000 in
theorem implParseMinutes_any (s : ByteArray) (mx : Int) (ev : Value) (w : World) (hs : s.size ≤ 1048576) (hM : w.cell? ⟨0, 0, none⟩ = some (.int .i64 mx)) (hT : Lib.TabIs Tryz.prog w "internal/strconv.uint64pow10" .u64 Lib.pow10Tab) (hE : w.cell? ⟨4, 0, none⟩ = some ev) (hev : ev = .nilIface ∨ ∃ te pe, ev = .iface te pe) :
    Calls Tryz.prog 15 #[.string s] w fun e w' => (∃ B q d, e = .returned (.tuple #[.slice B q d, .bool (parM s).2]) ∧ Own enV 7 w' w.heap.size 27 B q d (parM s).1) ∧ Below w.heap.size w w' := by
  obtain ⟨i0, hi, hz0, hz1, hz2⟩ := info_parts Tryz.infoen
  have b0 := below_alloc (w := w) (.cells #[] 27)
  have o0 := Own.empty enV 7 w 27
  have HM := Lib.hid hM
  have HT := Lib.hid hT
  have HE := Lib.hid hE
  have HEV := Lib.hid hev
  have SA := Lib.hid (SplitAfter_any s mx _ hs (cell_below b0 hM))
  have hsl := sa_len s
  have HSZ : Hid (∀ p ∈ saS s, (trimP p).size ≤ 1048576) := fun p hp => by have := sa_size _ s p hp; have := trimP_size p; omega
  clear hM hT hE hev
  go_enter Tryz.func15, Tryz.ntmps15
  go_wp2_with fail
  generalize hw1 : w.alloc (.cells #[] 27) = w1 at *
  clear hw1
  refine SA.out.mono ?_
  rintro e w2 ⟨⟨n, c, rfl, RDx⟩, b1⟩
  have t2 := below_trans b0 b1
  have hs1 : w.heap.size ≤ w1.heap.size := b0.size
  replace o0 := o0.below b1
  have HLEN := Lib.hid RDx.len
  have hl := RDx.len
  have RD := Lib.hid (RDx.base_le hs1)
  clear RDx SA b0 b1
  go_wp2_with fail
  go_loopw [4, 13] (fun v i wr => ∃ k : Nat, k ≤ n ∧ k ≤ 20 ∧ (s.size = 0 → k = 0) ∧ i = .int .i64 k ∧ ∃ B d L, v = .slice B k d ∧ Own enV 7 wr w.heap.size 27 B k d L ∧ (∀ (j : Nat) (x : EN), L[j]? = some x → ∃ p, (saS s)[j]? = some p ∧ parE (trimP p) = (x, true)) ∧ Below w.heap.size w wr ∧ Own stV 1 wr w.heap.size 9 (some ⟨w1.heap.size, 0, none⟩) n c (saS s)) (fun _ i _ => n - (intOf i).toNat)
  case atStart => exact ⟨0, by omega, by omega, fun _ => rfl, rfl, _, _, [], rfl, o0, (fun j x h => by cases h), t2, RD.out⟩
  case round =>
    obtain ⟨k, hk, hk20, hk0, rfl, B, d, L, rfl, ho, hL, hb, hp⟩ := hrel
    have HO := Lib.hid ho
    have HL := Lib.hid hL
    have HP := Lib.hid hp
    have HLl := Lib.hid ho.len
    clear ho hL hp o0 RD t2
    by_cases hlt : k < n
    · obtain ⟨b, oo, p, hbe, hpk, cp⟩ := (HP.out.rd stV_len).st hlt
      cases hbe
      simp only [Nat.zero_add] at cp
      have HPK := Lib.hid hpk
      have hz := HSZ.out p (List.mem_of_getElem? hpk)
      have hpz := sa_size _ s p (List.mem_of_getElem? hpk)
      clear hpk
      by_cases h0 : s.size = 0
      · have hk00 := hk0 h0
        subst hk00
        have e0 := size_zeroE h0
        subst e0
        have hL0 : L = [] := List.eq_nil_of_length_eq_zero HLl.out
        subst hL0
        have E := Lib.hid (parM_hit (s := ⟨#[]⟩) (l := []) rfl rfl)
        go_wp2_with fail
        refine (minutesText_any _ _ _ _ _ (pow10_below HT.out hb) (HO.out.rd enV_len) rfl (by omega)).mono ?_
        rintro e w3 ⟨rfl, b3⟩
        have hq1 : (menT []).toList.isEmpty = true := by rw [show menT [] = (⟨#[]⟩ : ByteArray) from rfl]; simp
        have hq2 : (!(menT []).toList.isEmpty) = false := by rw [hq1]; rfl
        go_wp2
        go_ret2
        exact ⟨⟨_, _, _, by rw [E.out]; rfl, by rw [E.out]; exact HO.out.below b3⟩, below_trans hb b3⟩
      · have hE' := toList_neE (show 0 < s.size by omega)
        have H0 := Lib.hid h0
        obtain ⟨x, g, hxg⟩ : ∃ x g, parE (trimP p) = (x, g) := ⟨_, _, rfl⟩
        have PC := Lib.hid (implParseEntry_any (trimP p) mx ev wr hz (cell_below hb HM.out) (pow10_below HT.out hb) (cell_below hb HE.out) HEV.out)
        have HXG := Lib.hid hxg
        have PC2 : Hid (Calls Tryz.prog 9 #[.string (trimP p)] wr fun e w' => e = .returned (.tuple #[.agg #[.int .i64 x.kind, .string x.who, .string x.mo, .int .i64 x.yes, .int .i64 x.no, .int .i64 x.ab, .bool x.pa], .bool g]) ∧ Below wr.heap.size wr w') := by
          have h9 := PC.out
          rw [hxg] at h9
          exact h9
        clear hxg PC h0
        go_wp2_with fail
        refine (Tryz.strings_TrimSuffix p ⟨#[32]⟩ _ (by omega)).mono ?_
        rintro e w3 ⟨rfl, hw3⟩
        replace hw3 := hw3.symm
        subst hw3
        go_wp2_with fail
        refine PC2.out.mono ?_
        rintro e w4 ⟨rfl, b4⟩
        have t4 := below_trans hb b4
        clear PC2 cp
        cases g
        · have E := Lib.hid (parM_none (s := s) (fun l hl e => by
            obtain ⟨y, hy, he, _⟩ := sa_bad hl e H0.out HPK.out
            have := (Prod.mk.inj (HXG.out.symm.trans he)).2
            cases this))
          go_wp2
          go_ret2
          exact ⟨⟨_, _, _, by rw [E.out]; rfl, by rw [E.out]; exact Own.nil _ _ _⟩, below_trans t4 (below_alloc _)⟩
        · by_cases h20 : k = 20
          · have E := Lib.hid (parM_none (s := s) (fun l hl e => by
              obtain ⟨y, hy, he, h2⟩ := sa_bad hl e H0.out HPK.out
              have := HLEN.out
              omega))
            have hq : ((k : Int) == 20) = true := by rw [beq_iff_eq]; omega
            go_wp2
            go_ret2
            exact ⟨⟨_, _, _, by rw [E.out]; rfl, by rw [E.out]; exact Own.nil _ _ _⟩, below_trans t4 (below_alloc _)⟩
          · have hq : ((k : Int) == 20) = false := by rw [beq_eq_false_iff_ne]; omega
            have HNL : Hid (∀ (j : Nat) (z : EN), (L ++ [x])[j]? = some z → ∃ p, (saS s)[j]? = some p ∧ parE (trimP p) = (z, true)) := fun j z hzz => by
              have hll := HLl.out
              rcases Nat.lt_or_ge j k with hj | hj
              · rw [List.getElem?_append_left (by omega)] at hzz
                exact HL.out j z hzz
              · have hjk : j = k := by
                  have := (List.getElem?_eq_some_iff.1 hzz).1
                  rw [List.length_append] at this
                  simp at this
                  omega
                have e0 : j - L.length = 0 := by omega
                rw [List.getElem?_append_right (by omega), e0] at hzz
                cases hzz
                exact ⟨p, by rw [hjk]; exact HPK.out, HXG.out⟩
            have HO4 := Lib.hid ((HO.out.below b4).alloc (.cells #[.int .i64 x.kind, .string x.who, .string x.mo, .int .i64 x.yes, .int .i64 x.no, .int .i64 x.ab, .bool x.pa] 27))
            have HP4 := Lib.hid ((HP.out.below b4).alloc (.cells #[.int .i64 x.kind, .string x.who, .string x.mo, .int .i64 x.yes, .int .i64 x.no, .int .i64 x.ab, .bool x.pa] 27))
            have t5 := below_trans t4 (below_alloc (w := w4) (.cells #[.int .i64 x.kind, .string x.who, .string x.mo, .int .i64 x.yes, .int .i64 x.no, .int .i64 x.ab, .bool x.pa] 27))
            have hs5 := t5.size
            clear HO HP HL b4 hb t4
            go_wp2_with (first
              | (at_builtin
                 refine wpList_push rfl _ _ _ rfl w.heap.size 27 i0 _ 7 72 Tryz.underlying35 hi hz0 hz1 hz2 rfl (by omega) enV enV_len one_enP B k d L rfl HO4.out x _ rfl _ rfl (by first | rfl | simp) (by simp only [maxLen]; omega) (by omega) hs5 ?_
                 intro B3 d3 w6 ho3 hg3)
              | fail)
            go_roundw
            case rel => exact ⟨k + 1, by omega, by omega, fun h => absurd h H0.out, by go_num, B3, d3, _, rfl, ho3, HNL.out, below_push t5 HO4.out hg3 (Nat.le_refl _), HP4.out.grown hg3 (HP4.out.ne_block HO4.out (by decide))⟩
            case measure => simp [intOf]; omega
    · have hkn : k = n := by omega
      subst hkn
      have HG : Hid (L.all enOK = true) := List.all_eq_true.2 (fun x hx => by
        obtain ⟨j, hj⟩ := List.mem_iff_getElem?.1 hx
        obtain ⟨p, _, he⟩ := HL.out j x hj
        have h9 := parE_yes (s := trimP p) (by rw [he])
        rw [he] at h9
        exact h9.1)
      have hn0 : s.size ≠ 0 := fun h => by
        have h1 := hk0 h
        have h2 := saS_pos s
        have := HLEN.out
        omega
      have HN0 := Lib.hid hn0
      clear hn0
      go_wp2_with fail
      refine (minutesText_any _ _ _ _ _ (pow10_below HT.out hb) (HO.out.rd enV_len) HG.out (by omega)).mono ?_
      rintro e w3 ⟨rfl, b3⟩
      have t3 := below_trans hb b3
      by_cases hse : menT L = s
      · have E := Lib.hid (parM_hit (l := L) (by unfold minB; rw [HG.out]; have := HLl.out; simp; omega) hse)
        have hq1 := bytes_eq_t hse
        have hq2 := ltn_t hse
        clear hse
        go_wp2
        go_ret2
        exact ⟨⟨_, _, _, by rw [E.out]; rfl, by rw [E.out]; exact HO.out.below b3⟩, t3⟩
      · have E := Lib.hid (parM_none (s := s) (fun l hl e => by
          have := sa_same hl e HN0.out (by have := HLl.out; have := HLEN.out; omega) HL.out
          subst this
          exact hse e))
        have hq1 := bytes_eq_f hse
        have hq2 := ltn_f hse
        clear hse
        go_wp2
        go_ret2
        exact ⟨⟨_, _, _, by rw [E.out]; rfl, by rw [E.out]; exact Own.nil _ _ _⟩, t3⟩
end Go.Proofs.YthphjncgbaknnaaGreatDoor
