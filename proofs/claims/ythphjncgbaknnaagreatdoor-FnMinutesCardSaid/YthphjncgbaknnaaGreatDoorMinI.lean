/-
  YthphjncgbaknnaaGreatDoorMinI: ParseEntry on the program's side, by contracts. (Printed by wip/gen/mini.py.)
-/
import Derived.Test.YthphjncgbaknnaaGreatDoorMinS
import Derived.Test.YthphjncgbaknnaaGreatDoorMinL
namespace Go.Proofs.YthphjncgbaknnaaGreatDoor
open Go Go.RowKit Go.Sort
set_option linter.unusedVariables false
set_option linter.unusedSimpArgs false

theorem wdI_sz {ws : List ByteArray} {N : Nat} (h : ∀ p ∈ ws, p.size ≤ N) (i : Nat) : (wdI ws i).size ≤ N := by
  unfold wdI
  rw [List.getD_eq_getElem?_getD]
  cases e : ws[i]? with
  | none => exact Nat.zero_le _
  | some x => exact h x (List.mem_of_getElem? e)
theorem wdA_sz {ws : List ByteArray} {N : Nat} (h : ∀ p ∈ ws, p.size ≤ N) (i : Nat) : (wdA ws i).size ≤ N := by
  unfold wdA
  split
  · exact Nat.le_trans (small_sz _) (wdI_sz h i)
  · exact Nat.zero_le _
theorem candL_sz {ws : List ByteArray} {N : Nat} (h : ∀ p ∈ ws, p.size ≤ N) : ∀ x ∈ candL ws, x.who.size ≤ N ∧ x.mo.size ≤ N := by
  have h2 := wdA_sz h 2
  have h0 := wdA_sz h 0
  have hla := wdI_sz h (ws.length - 1)
  have h7 := wdI_sz h 7
  have h3 := wdI_sz h 3
  have hz : (⟨#[]⟩ : ByteArray).size ≤ N := Nat.zero_le _
  intro x hx
  by_cases h8 : 8 < ws.length
  · cases hv : votR ws with
    | none =>
      rw [candL_no h8 hv] at hx
      simp only [cand4, List.mem_append, List.mem_cons, List.not_mem_nil, or_false] at hx
      rcases hx with (rfl | rfl | rfl | rfl) | rfl
      all_goals first | exact ⟨h2, hz⟩ | exact ⟨h0, hla⟩ | exact ⟨h2, h7⟩ | exact ⟨hz, h3⟩
    | some v =>
      obtain ⟨y, n, a⟩ := v
      rw [candL_yes h8 hv] at hx
      simp only [cand4, List.mem_append, List.mem_cons, List.not_mem_nil, or_false] at hx
      rcases hx with ((rfl | rfl | rfl | rfl) | rfl) | rfl
      all_goals first | exact ⟨h2, hz⟩ | exact ⟨h0, hla⟩ | exact ⟨h2, h7⟩ | exact ⟨hz, h3⟩
  · rw [candL_few h8] at hx
    simp only [cand4, List.mem_cons, List.not_mem_nil, or_false] at hx
    rcases hx with rfl | rfl | rfl | rfl
    all_goals first | exact ⟨h2, hz⟩ | exact ⟨h0, hla⟩ | exact ⟨h2, h7⟩ | exact ⟨hz, h3⟩
/-- Where no candidate has the sentence, no entry has it. -/
theorem parE_miss {s : ByteArray} (h : ∀ x ∈ candL (cutS (trimD s) 32), ¬ (enOK x = true ∧ senS x = s)) : parE s = (⟨0, ⟨#[]⟩, ⟨#[]⟩, 0, 0, 0, false⟩, false) := by
  refine parE_none (fun y hy e => ?_)
  subst e
  have hk := of_decide_eq_true hy
  have h9 := candL_wds hk
  rw [← sen_wordsI hk] at h9
  exact h y h9 ⟨hy, rfl⟩


set_option maxRecDepth 100000 in
set_option maxHeartbeats 4000000 in
theorem implParseEntry_any (s : ByteArray) (mx : Int) (ev : Value) (w : World) (hs : s.size ≤ 1048576) (hM : w.cell? ⟨0, 0, none⟩ = some (.int .i64 mx)) (hT : Lib.TabIs Tryz.prog w "internal/strconv.uint64pow10" .u64 Lib.pow10Tab) (hE : w.cell? ⟨4, 0, none⟩ = some ev) (hev : ev = .nilIface ∨ ∃ te pe, ev = .iface te pe) :
    Calls Tryz.prog 9 #[.string s] w fun e w' => e = .returned (.tuple #[.agg #[.int .i64 (parE s).1.kind, .string (parE s).1.who, .string (parE s).1.mo, .int .i64 (parE s).1.yes, .int .i64 (parE s).1.no, .int .i64 (parE s).1.ab, .bool (parE s).1.pa], .bool (parE s).2]) ∧ Below w.heap.size w w' := by
  have b0 := below_alloc (w := w) (.cells #[.int .i64 0, .string ⟨#[]⟩, .string ⟨#[]⟩, .int .i64 0, .int .i64 0, .int .i64 0, .bool false] 27)
  have orr : Own enV 7 (w.alloc (.cells #[.int .i64 0, .string ⟨#[]⟩, .string ⟨#[]⟩, .int .i64 0, .int .i64 0, .int .i64 0, .bool false] 27)) w.heap.size 27 (some ⟨w.heap.size, 0, none⟩) 1 1 [⟨0, ⟨#[]⟩, ⟨#[]⟩, 0, 0, 0, false⟩] := ⟨rfl, rfl, .inr ⟨_, _, _, rfl, Nat.le_refl _, heap_new rfl, by omega, by simp [maxLen], rfl, rfl⟩⟩
  have CC := Lib.hid (candidates_any s mx ev _ hs (cell_below b0 hM) (pow10_below hT b0) (cell_below b0 hE) hev)
  have HT := Lib.hid (pow10_below hT b0)
  have HSZ := Lib.hid (candL_sz (ws := cutS (trimD s) 32) (N := 1048576) (fun p hp => by have := cutS_size hp; have := trimD_size s; omega))
  have HMISS := Lib.hid (fun h => parE_miss (s := s) h)
  generalize candL (cutS (trimD s) 32) = l at *
  clear hM hT hE hev
  go_enter Tryz.func9, Tryz.ntmps9
  go_wp2_with fail
  generalize hw1 : w.alloc (.cells #[.int .i64 0, .string ⟨#[]⟩, .string ⟨#[]⟩, .int .i64 0, .int .i64 0, .int .i64 0, .bool false] 27) = w1 at *
  clear hw1
  refine CC.out.mono ?_
  rintro e w2 ⟨⟨B, q, d, rfl, ho⟩, b1⟩
  have t2 := below_trans b0 b1
  have hs12 := b1.size
  replace orr := orr.below b1
  replace HT := Lib.hid (pow10_below HT.out b1)
  have RD := ho.rd enV_len
  have hl := ho.len
  have hlq := RD.le
  clear ho CC b0 b1
  go_wp2_with fail
  go_loopw [9] (fun i wr => ∃ k : Nat, k ≤ q ∧ i = .int .i64 k ∧ (∀ j x, j < k → l[j]? = some x → ¬ (enOK x = true ∧ senS x = s)) ∧ Below w2.heap.size w2 wr) (fun i _ => q - (intOf i).toNat)
  case atStart => exact ⟨0, Nat.zero_le _, rfl, fun j x hj => by omega, Below.refl _ _⟩
  case round =>
    obtain ⟨k, hk, rfl, hn, hb⟩ := hrel
    replace orr := orr.below hb
    have tr := below_trans t2 hb
    have NH := Lib.hid hn
    clear hn
    by_cases hlt : k < q
    · obtain ⟨b, oo, x, rfl, hx, c0, c1, c2, c3, c4, c5, c6⟩ := (RD.below hb).en hlt
      obtain ⟨hz1, hz2⟩ := HSZ.out x (List.mem_of_getElem? hx)
      have hm1 : x.who.size ≤ maxLen := by simp only [maxLen]; omega
      have hm2 : x.mo.size ≤ maxLen := by simp only [maxLen]; omega
      have HX := Lib.hid hx
      clear hx RD
      have bx := below_alloc (w := wr) (.cells #[.int .i64 x.kind, .string x.who, .string x.mo, .int .i64 x.yes, .int .i64 x.no, .int .i64 x.ab, .bool x.pa] 27)
      have y0 := cell_of_row (wr.alloc (.cells #[.int .i64 x.kind, .string x.who, .string x.mo, .int .i64 x.yes, .int .i64 x.no, .int .i64 x.ab, .bool x.pa] 27)) wr.heap.size 0 _ _ _ (heap_new rfl)
      have y1 := cell_of_row (wr.alloc (.cells #[.int .i64 x.kind, .string x.who, .string x.mo, .int .i64 x.yes, .int .i64 x.no, .int .i64 x.ab, .bool x.pa] 27)) wr.heap.size 1 _ _ _ (heap_new rfl)
      have y2 := cell_of_row (wr.alloc (.cells #[.int .i64 x.kind, .string x.who, .string x.mo, .int .i64 x.yes, .int .i64 x.no, .int .i64 x.ab, .bool x.pa] 27)) wr.heap.size 2 _ _ _ (heap_new rfl)
      have y3 := cell_of_row (wr.alloc (.cells #[.int .i64 x.kind, .string x.who, .string x.mo, .int .i64 x.yes, .int .i64 x.no, .int .i64 x.ab, .bool x.pa] 27)) wr.heap.size 3 _ _ _ (heap_new rfl)
      have y4 := cell_of_row (wr.alloc (.cells #[.int .i64 x.kind, .string x.who, .string x.mo, .int .i64 x.yes, .int .i64 x.no, .int .i64 x.ab, .bool x.pa] 27)) wr.heap.size 4 _ _ _ (heap_new rfl)
      have y5 := cell_of_row (wr.alloc (.cells #[.int .i64 x.kind, .string x.who, .string x.mo, .int .i64 x.yes, .int .i64 x.no, .int .i64 x.ab, .bool x.pa] 27)) wr.heap.size 5 _ _ _ (heap_new rfl)
      have y6 := cell_of_row (wr.alloc (.cells #[.int .i64 x.kind, .string x.who, .string x.mo, .int .i64 x.yes, .int .i64 x.no, .int .i64 x.ab, .bool x.pa] 27)) wr.heap.size 6 _ _ _ (heap_new rfl)
      go_wp2_with fail
      refine (implEntry_any x _ hm1 hm2).mono ?_
      rintro e w3 ⟨rfl, b3⟩
      replace y0 := cell_below b3 y0
      replace y1 := cell_below b3 y1
      replace y2 := cell_below b3 y2
      replace y3 := cell_below b3 y3
      replace y4 := cell_below b3 y4
      replace y5 := cell_below b3 y5
      replace y6 := cell_below b3 y6
      have b3' := below_trans bx b3
      clear c0 c1 c2 c3 c4 c5 c6 bx b3
      cases hok : enOK x
      · have NH2 : Hid (∀ j z, j < k + 1 → l[j]? = some z → ¬ (enOK z = true ∧ senS z = s)) := fun j z hj hz => by
          by_cases hjk : j = k
          · subst hjk
            rw [HX.out] at hz
            cases hz
            rw [hok]
            exact fun e => by cases e.1
          · exact NH.out j z (by omega) hz
        clear NH orr HX
        go_wp2
        go_roundw
        case rel => exact ⟨k + 1, by omega, by go_num, NH2.out, below_trans hb b3'⟩
        case measure => simp [intOf]; omega
      · have HK := Lib.hid (of_decide_eq_true hok)
        have OK := Lib.hid hok
        clear hok
        go_wp2_with fail
        refine (entryText_any x _ (pow10_below HT.out (below_trans hb b3')) HK.out).mono ?_
        rintro e w4 ⟨rfl, b4⟩
        replace y0 := cell_below b4 y0
        replace y1 := cell_below b4 y1
        replace y2 := cell_below b4 y2
        replace y3 := cell_below b4 y3
        replace y4 := cell_below b4 y4
        replace y5 := cell_below b4 y5
        replace y6 := cell_below b4 y6
        have b4' := below_trans b3' b4
        clear b3' b4
        by_cases hse : senS x = s
        · have E := Lib.hid (parE_hit OK.out hse)
          have hq := bytes_eq_t hse
          have t4 := below_trans tr b4'
          replace orr := orr.below b4'
          clear hse
          have z0 := orr.cell enV_len (i := 0) (j := 0) rfl rfl
          have z1 := orr.cell enV_len (i := 0) (j := 1) rfl rfl
          have z2 := orr.cell enV_len (i := 0) (j := 2) rfl rfl
          have z3 := orr.cell enV_len (i := 0) (j := 3) rfl rfl
          have z4 := orr.cell enV_len (i := 0) (j := 4) rfl rfl
          have z5 := orr.cell enV_len (i := 0) (j := 5) rfl rfl
          have z6 := orr.cell enV_len (i := 0) (j := 6) rfl rfl
          have f0 := orr.frozen 0
          have f1 := orr.frozen 1
          have f2 := orr.frozen 2
          have f3 := orr.frozen 3
          have f4 := orr.frozen 4
          have f5 := orr.frozen 5
          have f6 := orr.frozen 6
          simp only [Nat.zero_mul, Nat.zero_add] at z0 z1 z2 z3 z4 z5 z6
          go_wp2
          exact bodyPost_ret (v := .tuple #[.agg #[.int .i64 x.kind, .string x.who, .string x.mo, .int .i64 x.yes, .int .i64 x.no, .int .i64 x.ab, .bool x.pa], .bool true]) (by simp [results, Tryz.results9, go_sem, z0, z1, z2, z3, z4, z5, z6]) rfl ⟨by rw [E.out], by first | exact (below_setCell (below_setCell (below_setCell (below_setCell (below_setCell (below_setCell (below_setCell t4 _ _ _ (Nat.le_refl _)) _ _ _ (Nat.le_refl _)) _ _ _ (Nat.le_refl _)) _ _ _ (Nat.le_refl _)) _ _ _ (Nat.le_refl _)) _ _ _ (Nat.le_refl _)) _ _ _ (Nat.le_refl _)) | exact t4⟩
        · have hq := bytes_eq_f hse
          have NH2 : Hid (∀ j z, j < k + 1 → l[j]? = some z → ¬ (enOK z = true ∧ senS z = s)) := fun j z hj hz => by
            by_cases hjk : j = k
            · subst hjk
              rw [HX.out] at hz
              cases hz
              exact fun e => hse e.2
            · exact NH.out j z (by omega) hz
          have HSE := Lib.hid hse
          clear NH orr HX hse
          go_wp2
          go_roundw
          case rel => exact ⟨k + 1, by omega, by go_num, NH2.out, below_trans hb b4'⟩
          case measure => simp [intOf]; omega
    · have E := Lib.hid (HMISS.out (fun x hx => by
        obtain ⟨j, hj⟩ := List.mem_iff_getElem?.1 hx
        have := (List.getElem?_eq_some_iff.1 hj).1
        exact NH.out j x (by omega) hj))
      clear NH HMISS HSZ RD
      have z0 := orr.cell enV_len (i := 0) (j := 0) rfl rfl
      have z1 := orr.cell enV_len (i := 0) (j := 1) rfl rfl
      have z2 := orr.cell enV_len (i := 0) (j := 2) rfl rfl
      have z3 := orr.cell enV_len (i := 0) (j := 3) rfl rfl
      have z4 := orr.cell enV_len (i := 0) (j := 4) rfl rfl
      have z5 := orr.cell enV_len (i := 0) (j := 5) rfl rfl
      have z6 := orr.cell enV_len (i := 0) (j := 6) rfl rfl
      have f0 := orr.frozen 0
      have f1 := orr.frozen 1
      have f2 := orr.frozen 2
      have f3 := orr.frozen 3
      have f4 := orr.frozen 4
      have f5 := orr.frozen 5
      have f6 := orr.frozen 6
      simp only [Nat.zero_mul, Nat.zero_add] at z0 z1 z2 z3 z4 z5 z6
      go_wp2
      exact bodyPost_ret (v := .tuple #[.agg #[.int .i64 0, .string ⟨#[]⟩, .string ⟨#[]⟩, .int .i64 0, .int .i64 0, .int .i64 0, .bool false], .bool false]) (by simp [results, Tryz.results9, go_sem, z0, z1, z2, z3, z4, z5, z6]) rfl ⟨by rw [E.out], by first | exact (below_setCell (below_setCell (below_setCell (below_setCell (below_setCell (below_setCell (below_setCell tr _ _ _ (Nat.le_refl _)) _ _ _ (Nat.le_refl _)) _ _ _ (Nat.le_refl _)) _ _ _ (Nat.le_refl _)) _ _ _ (Nat.le_refl _)) _ _ _ (Nat.le_refl _)) _ _ _ (Nat.le_refl _)) | exact tr⟩

end Go.Proofs.YthphjncgbaknnaaGreatDoor
