/-
  YthphjncgbaknnaaGreatDoorMinO: ParseMinutes on the reference's side, by contracts. (Printed by wip/gen/mino.py.)
-/
import Derived.Test.YthphjncgbaknnaaGreatDoorMinN
namespace Go.Proofs.YthphjncgbaknnaaGreatDoor
open Go Go.RowKit Go.Sort
set_option linter.unusedVariables false
set_option linter.unusedSimpArgs false

theorem sp_bad {s : ByteArray} {l : List EN} (hl : minB l = true) (e : menT l = s) {k : Nat} {p : ByteArray} (hp : (cutS s 46)[k]? = some p) (hk : k < (cutS s 46).length - 1) : ∃ y, l[k]? = some y ∧ parE (pwS p k) = (y, true) := by
  subst e
  have hok := minB_ok hl
  by_cases hn : l = []
  · subst hn
    have : (cutS (menT []) 46).length = 1 := rfl
    omega
  rw [men_len hok hn] at hk
  have hy : l[k]? = some l[k] := List.getElem?_eq_getElem (by omega)
  obtain ⟨w, hw, he⟩ := pwS_men hok hn hy
  rw [hp] at hw
  cases hw
  exact ⟨_, hy, by rw [he]; exact parE_hit (decide_eq_true (hok _ (List.getElem_mem _))) rfl⟩
theorem sp_same {s : ByteArray} {L l : List EN} (hl : minB l = true) (e : menT l = s) (hL : L.length = (cutS s 46).length - 1) (h : ∀ (j : Nat) (x : EN), L[j]? = some x → ∃ p, (cutS s 46)[j]? = some p ∧ parE (pwS p j) = (x, true)) : L = l := by
  have hlen : (cutS s 46).length - 1 = l.length := by
    subst e
    by_cases hn : l = []
    · subst hn; rfl
    · rw [men_len (minB_ok hl) hn]; rfl
  apply List.ext_getElem?
  intro j
  by_cases hj : j < L.length
  · have hx : L[j]? = some L[j] := List.getElem?_eq_getElem hj
    obtain ⟨p, hp, he⟩ := h j _ hx
    obtain ⟨y, hy, he2⟩ := sp_bad hl e hp (by omega)
    have e1 := (Prod.mk.inj (he.symm.trans he2)).1
    rw [hx, hy, e1]
  · rw [List.getElem?_eq_none (by omega), List.getElem?_eq_none (by omega)]
def LPs : Prop := ∀ (s : ByteArray) (w : World), s.size ≤ 1048576 → Calls Tryz.prog 29 #[.string s] w fun e w' => e = .returned (.tuple #[.agg #[.int .i64 (parE s).1.kind, .string (parE s).1.who, .string (parE s).1.mo, .int .i64 (parE s).1.yes, .int .i64 (parE s).1.no, .int .i64 (parE s).1.ab, .bool (parE s).1.pa], .bool (parE s).2]) ∧ Below w.heap.size w w'

set_option maxRecDepth 100000 in
set_option maxHeartbeats 6000000 in
theorem specParseMinutes_of (LP : LPs) (s : ByteArray) (w : World) (hs : s.size ≤ 1048576) :
    Calls Tryz.prog 18 #[.string s] w fun e w' => (∃ B q d, e = .returned (.tuple #[.slice B q d, .bool (parM s).2]) ∧ Own enV 7 w' w.heap.size 27 B q d (parM s).1) ∧ Below w.heap.size w w' := by
  obtain ⟨i0, hi, hz0, hz1, hz2⟩ := info_parts Tryz.infoen
  have b0 := below_alloc (w := w) (.cells #[] 27)
  have o0 := Own.empty enV 7 w 27
  by_cases h17 : 1700 < s.size
  · have h17' : 1700 < (s.size : Int) := by omega
    have E := Lib.hid (parM_none (s := s) (fun l hl e => by have := men_1700 hl; rw [e] at this; omega))
    go_enter Tryz.func18, Tryz.ntmps18
    go_wp2
    go_ret2
    exact ⟨⟨_, _, _, by rw [E.out]; rfl, by rw [E.out]; exact o0⟩, b0⟩
  have h17' : ¬ 1700 < (s.size : Int) := by omega
  go_enter Tryz.func18, Tryz.ntmps18
  go_wp2_with fail
  generalize hw1 : w.alloc (.cells #[] 27) = w1 at *
  clear hw1
  refine (l1Split_any s 46 _ (by omega)).mono ?_
  rintro e w2 ⟨⟨A, n, c, rfl, RDx⟩, b1⟩
  have t2 := below_trans b0 b1
  have hs1 : w.heap.size ≤ w1.heap.size := b0.size
  replace o0 := o0.below b1
  have HLEN := Lib.hid RDx.len
  have hn1 : 1 ≤ n := by
    have h9 := List.length_pos_iff.2 (cutS_ne s 46)
    have := RDx.len
    omega
  have hn2 : n ≤ 1701 := by have := cutS_len s 46; have := RDx.len; omega
  have hsub : IntKind.i64.wrap ((n : Int) - 1) = ((n - 1 : Nat) : Int) := by rw [IntWalk.i64_in _ (by omega)]; omega
  have RD := Lib.hid (RDx.base_le hs1)
  clear RDx b0 b1
  go_wp2_with fail
  go_loopw [4, 6] (fun v i wr => ∃ k : Nat, k ≤ n - 1 ∧ i = .int .i64 k ∧ ∃ B d L, v = .slice B k d ∧ Own enV 7 wr w.heap.size 27 B k d L ∧ (∀ (j : Nat) (x : EN), L[j]? = some x → ∃ p, (cutS s 46)[j]? = some p ∧ parE (pwS p j) = (x, true)) ∧ Below w.heap.size w wr ∧ Own stV 1 wr w.heap.size 9 A n c (cutS s 46)) (fun _ i _ => n - 1 - (intOf i).toNat)
  case atStart => exact ⟨0, by omega, rfl, _, _, [], rfl, o0, (fun j x h => by cases h), t2, RD.out⟩
  case round =>
    obtain ⟨k, hk, rfl, B, d, L, rfl, ho, hL, hb, hp⟩ := hrel
    have HO := Lib.hid ho
    have HL := Lib.hid hL
    have HP := Lib.hid hp
    have HLl := Lib.hid ho.len
    clear ho hL hp o0 RD t2
    by_cases hlt : k < n - 1
    · have hlt' : (k : Int) < ((n - 1 : Nat) : Int) := by omega
      have hkn : k < n := by omega
      obtain ⟨b, oo, p, hbe, hpk, cp⟩ := (HP.out.rd stV_len).st (i := k) (by omega)
      subst hbe
      have HPK := Lib.hid hpk
      have hpz := cutS_size (List.mem_of_getElem? hpk)
      clear hpk
      by_cases hA : 0 < k ∧ 0 < p.size
      · have hA1 : (0 : Int) < (k : Int) := by omega
        have hA2 : (0 : Int) < (p.size : Int) := by omega
        have hA3 : 1 ≤ p.size := hA.2
        have hez : (p.extract 1 p.size).size ≤ p.size := by rw [ByteArray.size_extract]; omega
        have HPW : Hid (pwS p k = p.extract 1 p.size ++ ⟨#[46]⟩) := by show _ = _; unfold pwS; rw [if_pos hA]; rfl
        obtain ⟨x, g, hxg⟩ : ∃ x g, parE (pwS p k) = (x, g) := ⟨_, _, rfl⟩
        have HXG := Lib.hid hxg
        have PC2 : Hid (Calls Tryz.prog 29 #[.string (p.extract 1 p.size ++ ⟨#[46]⟩)] wr fun e w' => e = .returned (.tuple #[.agg #[.int .i64 x.kind, .string x.who, .string x.mo, .int .i64 x.yes, .int .i64 x.no, .int .i64 x.ab, .bool x.pa], .bool g]) ∧ Below wr.heap.size wr w') := by
          have h9 := LP (p.extract 1 p.size ++ ⟨#[46]⟩) wr (by rw [ByteArray.size_append]; have : (⟨#[46]⟩ : ByteArray).size = 1 := rfl; omega)
          rw [← HPW.out, hxg] at h9
          rw [← HPW.out]
          exact h9
        clear hxg
        have hcz : (p.extract 1 p.size ++ (⟨#[46]⟩ : ByteArray)).size ≤ maxLen := by rw [ByteArray.size_append]; have : (⟨#[46]⟩ : ByteArray).size = 1 := rfl; simp only [maxLen]; omega
        go_wp2_with fail
        refine PC2.out.mono ?_
        rintro e w4 ⟨rfl, b4⟩
        have t4 := below_trans hb b4
        clear PC2 cp
        cases g
        · have E := Lib.hid (parM_none (s := s) (fun l hl e => by
            obtain ⟨y, hy, he⟩ := sp_bad hl e HPK.out (by have := HLEN.out; omega)
            have := (Prod.mk.inj (HXG.out.symm.trans he)).2
            cases this))
          go_wp2
          go_ret2
          exact ⟨⟨_, _, _, by rw [E.out]; rfl, by rw [E.out]; exact Own.of_block (heap_new (by simp)) (by have := t4.size; omega)⟩, below_trans t4 (below_alloc2 _ _)⟩
        · have hsx := hb.size
          skip
          have HNL : Hid (∀ (j : Nat) (z : EN), (L ++ [x])[j]? = some z → ∃ p, (cutS s 46)[j]? = some p ∧ parE (pwS p j) = (z, true)) := fun j z hzz => by
            have hll := HLl.out
            rcases Nat.lt_or_ge j k with hj | hj
            · rw [List.getElem?_append_left (by omega)] at hzz
              exact HL.out j z hzz
            · have hjk : j = k := by
                have := (List.getElem?_eq_some_iff.1 hzz).1
                rw [List.length_append] at this
                simp at this
                omega
              have e0 : j - L.length = 0 := by omega
              rw [List.getElem?_append_right (by omega), e0] at hzz
              cases hzz
              exact ⟨p, by rw [hjk]; exact HPK.out, by rw [hjk]; exact HXG.out⟩
          have HO4 := Lib.hid ((HO.out.below b4).alloc (.cells #[.int .i64 x.kind, .string x.who, .string x.mo, .int .i64 x.yes, .int .i64 x.no, .int .i64 x.ab, .bool x.pa] 27))
          have HP4 := Lib.hid ((HP.out.below b4).alloc (.cells #[.int .i64 x.kind, .string x.who, .string x.mo, .int .i64 x.yes, .int .i64 x.no, .int .i64 x.ab, .bool x.pa] 27))
          have t5 := below_trans t4 (below_alloc (w := w4) (.cells #[.int .i64 x.kind, .string x.who, .string x.mo, .int .i64 x.yes, .int .i64 x.no, .int .i64 x.ab, .bool x.pa] 27))
          have hs5 := t5.size
          clear HO HP HL b4 hb t4
          go_wp2_with (first
            | (at_builtin
               refine wpList_push rfl _ _ _ rfl w.heap.size 27 i0 _ 7 72 Tryz.underlying35 hi hz0 hz1 hz2 rfl (by omega) enV enV_len one_enP B k d L rfl HO4.out x _ rfl _ rfl (by first | rfl | simp) (by simp only [maxLen]; omega) (by omega) hs5 ?_
               intro B3 d3 w6 ho3 hg3)
            | fail)
          go_roundw
          case rel => exact ⟨k + 1, by omega, by go_num, B3, d3, _, rfl, ho3, HNL.out, below_push t5 HO4.out hg3 (Nat.le_refl _), HP4.out.grown hg3 (HP4.out.ne_block HO4.out (by decide))⟩
          case measure => simp [intOf]; omega

      · have hB : (k : Int) ≤ 0 ∨ (p.size : Int) ≤ 0 := by omega
        rcases hB with hB | hB
        · have hB' : ¬ (0 : Int) < (k : Int) := by omega
          have HPW : Hid (pwS p k = p ++ ⟨#[46]⟩) := by show _ = _; unfold pwS; rw [if_neg hA]; rfl
          obtain ⟨x, g, hxg⟩ : ∃ x g, parE (pwS p k) = (x, g) := ⟨_, _, rfl⟩
          have HXG := Lib.hid hxg
          have PC2 : Hid (Calls Tryz.prog 29 #[.string (p ++ ⟨#[46]⟩)] wr fun e w' => e = .returned (.tuple #[.agg #[.int .i64 x.kind, .string x.who, .string x.mo, .int .i64 x.yes, .int .i64 x.no, .int .i64 x.ab, .bool x.pa], .bool g]) ∧ Below wr.heap.size wr w') := by
            have h9 := LP (p ++ ⟨#[46]⟩) wr (by rw [ByteArray.size_append]; have : (⟨#[46]⟩ : ByteArray).size = 1 := rfl; omega)
            rw [← HPW.out, hxg] at h9
            rw [← HPW.out]
            exact h9
          clear hxg
          have hcz : (p ++ (⟨#[46]⟩ : ByteArray)).size ≤ maxLen := by rw [ByteArray.size_append]; have : (⟨#[46]⟩ : ByteArray).size = 1 := rfl; simp only [maxLen]; omega
          go_wp2_with fail
          refine PC2.out.mono ?_
          rintro e w4 ⟨rfl, b4⟩
          have t4 := below_trans hb b4
          clear PC2 cp
          cases g
          · have E := Lib.hid (parM_none (s := s) (fun l hl e => by
              obtain ⟨y, hy, he⟩ := sp_bad hl e HPK.out (by have := HLEN.out; omega)
              have := (Prod.mk.inj (HXG.out.symm.trans he)).2
              cases this))
            go_wp2
            go_ret2
            exact ⟨⟨_, _, _, by rw [E.out]; rfl, by rw [E.out]; exact Own.of_block (heap_new (by simp)) (by have := t4.size; omega)⟩, below_trans t4 (below_alloc2 _ _)⟩
          · have hsx := hb.size
            skip
            have HNL : Hid (∀ (j : Nat) (z : EN), (L ++ [x])[j]? = some z → ∃ p, (cutS s 46)[j]? = some p ∧ parE (pwS p j) = (z, true)) := fun j z hzz => by
              have hll := HLl.out
              rcases Nat.lt_or_ge j k with hj | hj
              · rw [List.getElem?_append_left (by omega)] at hzz
                exact HL.out j z hzz
              · have hjk : j = k := by
                  have := (List.getElem?_eq_some_iff.1 hzz).1
                  rw [List.length_append] at this
                  simp at this
                  omega
                have e0 : j - L.length = 0 := by omega
                rw [List.getElem?_append_right (by omega), e0] at hzz
                cases hzz
                exact ⟨p, by rw [hjk]; exact HPK.out, by rw [hjk]; exact HXG.out⟩
            have HO4 := Lib.hid ((HO.out.below b4).alloc (.cells #[.int .i64 x.kind, .string x.who, .string x.mo, .int .i64 x.yes, .int .i64 x.no, .int .i64 x.ab, .bool x.pa] 27))
            have HP4 := Lib.hid ((HP.out.below b4).alloc (.cells #[.int .i64 x.kind, .string x.who, .string x.mo, .int .i64 x.yes, .int .i64 x.no, .int .i64 x.ab, .bool x.pa] 27))
            have t5 := below_trans t4 (below_alloc (w := w4) (.cells #[.int .i64 x.kind, .string x.who, .string x.mo, .int .i64 x.yes, .int .i64 x.no, .int .i64 x.ab, .bool x.pa] 27))
            have hs5 := t5.size
            clear HO HP HL b4 hb t4
            go_wp2_with (first
              | (at_builtin
                 refine wpList_push rfl _ _ _ rfl w.heap.size 27 i0 _ 7 72 Tryz.underlying35 hi hz0 hz1 hz2 rfl (by omega) enV enV_len one_enP B k d L rfl HO4.out x _ rfl _ rfl (by first | rfl | simp) (by simp only [maxLen]; omega) (by omega) hs5 ?_
                 intro B3 d3 w6 ho3 hg3)
              | fail)
            go_roundw
            case rel => exact ⟨k + 1, by omega, by go_num, B3, d3, _, rfl, ho3, HNL.out, below_push t5 HO4.out hg3 (Nat.le_refl _), HP4.out.grown hg3 (HP4.out.ne_block HO4.out (by decide))⟩
            case measure => simp [intOf]; omega
        · have hB' : ¬ (0 : Int) < (p.size : Int) := by omega
          by_cases hk00 : 0 < k
          · have hB2 : (0 : Int) < (k : Int) := by omega
            have HPW : Hid (pwS p k = p ++ ⟨#[46]⟩) := by show _ = _; unfold pwS; rw [if_neg hA]; rfl
            obtain ⟨x, g, hxg⟩ : ∃ x g, parE (pwS p k) = (x, g) := ⟨_, _, rfl⟩
            have HXG := Lib.hid hxg
            have PC2 : Hid (Calls Tryz.prog 29 #[.string (p ++ ⟨#[46]⟩)] wr fun e w' => e = .returned (.tuple #[.agg #[.int .i64 x.kind, .string x.who, .string x.mo, .int .i64 x.yes, .int .i64 x.no, .int .i64 x.ab, .bool x.pa], .bool g]) ∧ Below wr.heap.size wr w') := by
              have h9 := LP (p ++ ⟨#[46]⟩) wr (by rw [ByteArray.size_append]; have : (⟨#[46]⟩ : ByteArray).size = 1 := rfl; omega)
              rw [← HPW.out, hxg] at h9
              rw [← HPW.out]
              exact h9
            clear hxg
            have hcz : (p ++ (⟨#[46]⟩ : ByteArray)).size ≤ maxLen := by rw [ByteArray.size_append]; have : (⟨#[46]⟩ : ByteArray).size = 1 := rfl; simp only [maxLen]; omega
            go_wp2_with fail
            refine PC2.out.mono ?_
            rintro e w4 ⟨rfl, b4⟩
            have t4 := below_trans hb b4
            clear PC2 cp
            cases g
            · have E := Lib.hid (parM_none (s := s) (fun l hl e => by
                obtain ⟨y, hy, he⟩ := sp_bad hl e HPK.out (by have := HLEN.out; omega)
                have := (Prod.mk.inj (HXG.out.symm.trans he)).2
                cases this))
              go_wp2
              go_ret2
              exact ⟨⟨_, _, _, by rw [E.out]; rfl, by rw [E.out]; exact Own.of_block (heap_new (by simp)) (by have := t4.size; omega)⟩, below_trans t4 (below_alloc2 _ _)⟩
            · have hsx := hb.size
              skip
              have HNL : Hid (∀ (j : Nat) (z : EN), (L ++ [x])[j]? = some z → ∃ p, (cutS s 46)[j]? = some p ∧ parE (pwS p j) = (z, true)) := fun j z hzz => by
                have hll := HLl.out
                rcases Nat.lt_or_ge j k with hj | hj
                · rw [List.getElem?_append_left (by omega)] at hzz
                  exact HL.out j z hzz
                · have hjk : j = k := by
                    have := (List.getElem?_eq_some_iff.1 hzz).1
                    rw [List.length_append] at this
                    simp at this
                    omega
                  have e0 : j - L.length = 0 := by omega
                  rw [List.getElem?_append_right (by omega), e0] at hzz
                  cases hzz
                  exact ⟨p, by rw [hjk]; exact HPK.out, by rw [hjk]; exact HXG.out⟩
              have HO4 := Lib.hid ((HO.out.below b4).alloc (.cells #[.int .i64 x.kind, .string x.who, .string x.mo, .int .i64 x.yes, .int .i64 x.no, .int .i64 x.ab, .bool x.pa] 27))
              have HP4 := Lib.hid ((HP.out.below b4).alloc (.cells #[.int .i64 x.kind, .string x.who, .string x.mo, .int .i64 x.yes, .int .i64 x.no, .int .i64 x.ab, .bool x.pa] 27))
              have t5 := below_trans t4 (below_alloc (w := w4) (.cells #[.int .i64 x.kind, .string x.who, .string x.mo, .int .i64 x.yes, .int .i64 x.no, .int .i64 x.ab, .bool x.pa] 27))
              have hs5 := t5.size
              clear HO HP HL b4 hb t4
              go_wp2_with (first
                | (at_builtin
                   refine wpList_push rfl _ _ _ rfl w.heap.size 27 i0 _ 7 72 Tryz.underlying35 hi hz0 hz1 hz2 rfl (by omega) enV enV_len one_enP B k d L rfl HO4.out x _ rfl _ rfl (by first | rfl | simp) (by simp only [maxLen]; omega) (by omega) hs5 ?_
                   intro B3 d3 w6 ho3 hg3)
                | fail)
              go_roundw
              case rel => exact ⟨k + 1, by omega, by go_num, B3, d3, _, rfl, ho3, HNL.out, below_push t5 HO4.out hg3 (Nat.le_refl _), HP4.out.grown hg3 (HP4.out.ne_block HO4.out (by decide))⟩
              case measure => simp [intOf]; omega
          · have hB2 : ¬ (0 : Int) < (k : Int) := by omega
            have HPW : Hid (pwS p k = p ++ ⟨#[46]⟩) := by show _ = _; unfold pwS; rw [if_neg hA]; rfl
            obtain ⟨x, g, hxg⟩ : ∃ x g, parE (pwS p k) = (x, g) := ⟨_, _, rfl⟩
            have HXG := Lib.hid hxg
            have PC2 : Hid (Calls Tryz.prog 29 #[.string (p ++ ⟨#[46]⟩)] wr fun e w' => e = .returned (.tuple #[.agg #[.int .i64 x.kind, .string x.who, .string x.mo, .int .i64 x.yes, .int .i64 x.no, .int .i64 x.ab, .bool x.pa], .bool g]) ∧ Below wr.heap.size wr w') := by
              have h9 := LP (p ++ ⟨#[46]⟩) wr (by rw [ByteArray.size_append]; have : (⟨#[46]⟩ : ByteArray).size = 1 := rfl; omega)
              rw [← HPW.out, hxg] at h9
              rw [← HPW.out]
              exact h9
            clear hxg
            have hcz : (p ++ (⟨#[46]⟩ : ByteArray)).size ≤ maxLen := by rw [ByteArray.size_append]; have : (⟨#[46]⟩ : ByteArray).size = 1 := rfl; simp only [maxLen]; omega
            go_wp2_with fail
            refine PC2.out.mono ?_
            rintro e w4 ⟨rfl, b4⟩
            have t4 := below_trans hb b4
            clear PC2 cp
            cases g
            · have E := Lib.hid (parM_none (s := s) (fun l hl e => by
                obtain ⟨y, hy, he⟩ := sp_bad hl e HPK.out (by have := HLEN.out; omega)
                have := (Prod.mk.inj (HXG.out.symm.trans he)).2
                cases this))
              go_wp2
              go_ret2
              exact ⟨⟨_, _, _, by rw [E.out]; rfl, by rw [E.out]; exact Own.of_block (heap_new (by simp)) (by have := t4.size; omega)⟩, below_trans t4 (below_alloc2 _ _)⟩
            · have hsx := hb.size
              skip
              have HNL : Hid (∀ (j : Nat) (z : EN), (L ++ [x])[j]? = some z → ∃ p, (cutS s 46)[j]? = some p ∧ parE (pwS p j) = (z, true)) := fun j z hzz => by
                have hll := HLl.out
                rcases Nat.lt_or_ge j k with hj | hj
                · rw [List.getElem?_append_left (by omega)] at hzz
                  exact HL.out j z hzz
                · have hjk : j = k := by
                    have := (List.getElem?_eq_some_iff.1 hzz).1
                    rw [List.length_append] at this
                    simp at this
                    omega
                  have e0 : j - L.length = 0 := by omega
                  rw [List.getElem?_append_right (by omega), e0] at hzz
                  cases hzz
                  exact ⟨p, by rw [hjk]; exact HPK.out, by rw [hjk]; exact HXG.out⟩
              have HO4 := Lib.hid ((HO.out.below b4).alloc (.cells #[.int .i64 x.kind, .string x.who, .string x.mo, .int .i64 x.yes, .int .i64 x.no, .int .i64 x.ab, .bool x.pa] 27))
              have HP4 := Lib.hid ((HP.out.below b4).alloc (.cells #[.int .i64 x.kind, .string x.who, .string x.mo, .int .i64 x.yes, .int .i64 x.no, .int .i64 x.ab, .bool x.pa] 27))
              have t5 := below_trans t4 (below_alloc (w := w4) (.cells #[.int .i64 x.kind, .string x.who, .string x.mo, .int .i64 x.yes, .int .i64 x.no, .int .i64 x.ab, .bool x.pa] 27))
              have hs5 := t5.size
              clear HO HP HL b4 hb t4
              go_wp2_with (first
                | (at_builtin
                   refine wpList_push rfl _ _ _ rfl w.heap.size 27 i0 _ 7 72 Tryz.underlying35 hi hz0 hz1 hz2 rfl (by omega) enV enV_len one_enP B k d L rfl HO4.out x _ rfl _ rfl (by first | rfl | simp) (by simp only [maxLen]; omega) (by omega) hs5 ?_
                   intro B3 d3 w6 ho3 hg3)
                | fail)
              go_roundw
              case rel => exact ⟨k + 1, by omega, by go_num, B3, d3, _, rfl, ho3, HNL.out, below_push t5 HO4.out hg3 (Nat.le_refl _), HP4.out.grown hg3 (HP4.out.ne_block HO4.out (by decide))⟩
              case measure => simp [intOf]; omega
    · have hkn : k = n - 1 := by omega
      have hlt' : ¬ (k : Int) < ((n - 1 : Nat) : Int) := by omega
      have HG : Hid (∀ x ∈ L, enOK x = true) := fun x hx => by
        obtain ⟨j, hj⟩ := List.mem_iff_getElem?.1 hx
        obtain ⟨p, _, he⟩ := HL.out j x hj
        have h9 := parE_yes (s := pwS p j) (by rw [he])
        rw [he] at h9
        exact h9.1
      have HZ : Hid (∀ x ∈ L, EnSz x) := fun x hx => by
        obtain ⟨h1, h2, _⟩ := enOK_sizes (of_decide_eq_true (HG.out x hx))
        exact ⟨by simp only [maxLen]; omega, by simp only [maxLen]; omega⟩
      have hlk := HLl.out
      have HS := Lib.hid (fun (l : List EN) (hl : minB l = true) (e : menT l = s) => sp_same (L := L) hl e (by have := HLEN.out; omega) HL.out)
      clear hlk hkn
      go_wp2_with fail
      refine (l21Good_any _ _ _ _ _ (HO.out.rd enV_len) HZ.out).mono ?_
      rintro e w3 ⟨rfl, b3⟩
      have t3 := below_trans hb b3
      cases hmb : minB L
      · have E := Lib.hid (parM_none (s := s) (fun l hl e => by
          have := HS.out l hl e
          subst this
          rw [hl] at hmb
          cases hmb))
        clear hmb
        go_wp2
        go_ret2
        exact ⟨⟨_, _, _, by rw [E.out]; rfl, by rw [E.out]; exact (Own.empty _ _ _ _).base_le t3.size⟩, below_trans t3 (below_alloc _)⟩
      · have HMB := Lib.hid hmb
        clear hmb
        go_wp2_with fail
        refine (l21Join_any _ _ _ _ _ ((HO.out.below b3).rd enV_len) (minB_all HMB.out).1 (by omega)).mono ?_
        rintro e w4 ⟨rfl, b4⟩
        have t4 := below_trans t3 b4
        by_cases hse : menT L = s
        · have E := Lib.hid (parM_hit HMB.out hse)
          have hq1 := bytes_eq_t hse
          have hq2 := ltn_t hse
          clear hse
          go_wp2
          go_ret2
          exact ⟨⟨_, _, _, by rw [E.out]; rfl, by rw [E.out]; exact (HO.out.below b3).below b4⟩, t4⟩
        · have E := Lib.hid (parM_none (s := s) (fun l hl e => by
            have := HS.out l hl e
            subst this
            exact hse e))
          have hq1 := bytes_eq_f hse
          have hq2 := ltn_f hse
          clear hse
          go_wp2
          go_ret2
          exact ⟨⟨_, _, _, by rw [E.out]; rfl, by rw [E.out]; exact (Own.empty _ _ _ _).base_le t4.size⟩, below_trans t4 (below_alloc _)⟩
end Go.Proofs.YthphjncgbaknnaaGreatDoor
