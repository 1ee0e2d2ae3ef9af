/-
  YthphjncgbaknnaaGreatDoorMinR: ParseEntry on the program's side: parseVotes, by contracts. (Printed by wip/gen/minr.py.)
-/
import Derived.Test.YthphjncgbaknnaaGreatDoorMinQ
import Derived.Lib.SliceRun
namespace Go.Proofs.YthphjncgbaknnaaGreatDoor
open Go Go.RowKit Go.Sort
set_option linter.unusedVariables false
set_option linter.unusedSimpArgs false

set_option maxHeartbeats 400000 in
theorem cloneS_any (b oo n c : Nat) (l : List ByteArray) (w : World) (ha : Rd stV 1 w (some ⟨b, oo, none⟩) n c l) (hn : n ≤ 1048576) :
    Calls Tryz.prog 63 #[.slice (some ⟨b, oo, none⟩) n c] w fun e w' => (∃ B d, e = .returned (.slice B n d) ∧ Own stV 1 w' w.heap.size 9 B n d l) ∧ Below w.heap.size w w' := by
  obtain ⟨i0, hi, hz0, hz1, hz2⟩ := info_parts Tryz.infoSt
  have qT : ∀ (w : World) (a : Option Addr) (n c n' c' : Nat), (binOp .eql 55 (.slice a n c) (.slice none n' c')).run Tryz.prog w = .ok (.bool a.isNone) w := fun w a n c n' c' => Lib.run_eql_slice_nil w _ _ a n c n' c' Tryz.underlying55
  go_enter Tryz.func63, Tryz.ntmps63
  go_wp2_with (at_builtin; refine wpList_pushAll rfl _ _ _ rfl w.heap.size 9 i0 (.string ByteArray.empty) 1 16 Tryz.underlying55 hi hz0 hz1 hz2 rfl (by omega) stV stV_len one_st _ 0 0 [] rfl (Own.empty stV 1 _ 9) _ n c l rfl (ha.alloc _) (by simp only [maxLen]; omega) (by omega) (by first | simp; done | (simp; omega)) ?_; intro B1 d1 w1 o1 g1; simp only [Nat.zero_add, List.nil_append] at o1)
  go_ret
  exact ⟨⟨_, _, by simp, o1⟩, below_push (below_alloc _) (Own.empty stV 1 w 9) g1 (Nat.le_refl _)⟩

def votX (us : List ByteArray) : List ByteArray := if us.length = 3 then us ++ [⟨#[119, 105, 116, 104]⟩, ⟨#[48]⟩] else us
def votQ (us : List ByteArray) : Option (Int × Int × Int) :=
  if (votX us).length < 5 then none
  else if (prI (wdI (votX us) 0)).2 = true ∧ (prI (wdI (votX us) 2)).2 = true ∧ (prI (wdI (votX us) 4)).2 = true then some ((prI (wdI (votX us) 0)).1, (prI (wdI (votX us) 2)).1, (prI (wdI (votX us) 4)).1) else none
theorem votR_drop (ws : List ByteArray) : votR ws = votQ (ws.drop 7) := rfl
theorem wdI_at {ws : List ByteArray} {i : Nat} {x : ByteArray} (h : ws[i]? = some x) : wdI ws i = x := by unfold wdI; rw [List.getD_eq_getElem?_getD, h]; rfl
theorem votQ_few {us : List ByteArray} (h3 : us.length ≠ 3) (h5 : us.length < 5) : votQ us = none := by unfold votQ votX; rw [if_neg h3, if_pos h5]
theorem votQ_at {us ts : List ByteArray} (hx : votX us = ts) (h5 : 5 ≤ ts.length) {p0 p2 p4 : ByteArray} (h0 : ts[0]? = some p0) (h2 : ts[2]? = some p2) (h4 : ts[4]? = some p4) {v0 v2 v4 : Int} {g0 g2 g4 : Bool} (e0 : prI p0 = (v0, g0)) (e2 : prI p2 = (v2, g2)) (e4 : prI p4 = (v4, g4)) :
    votQ us = if g0 && g2 && g4 then some (v0, v2, v4) else none := by
  unfold votQ
  rw [hx, wdI_at h0, wdI_at h2, wdI_at h4, e0, e2, e4, if_neg (by omega)]
  cases g0 <;> cases g2 <;> cases g4 <;> rfl


set_option maxRecDepth 100000 in
set_option maxHeartbeats 400000 in
theorem parseVotes_any (A : Option Addr) (n c : Nat) (us : List ByteArray) (ev : Value) (w : World) (ha : Rd stV 1 w A n c us) (hg : ∀ x ∈ us, x.size ≤ 1048576) (hn : n ≤ 1048576) (hT : Lib.TabIs Tryz.prog w "internal/strconv.uint64pow10" .u64 Lib.pow10Tab) (hE : w.cell? ⟨4, 0, none⟩ = some ev) (hev : ev = .nilIface ∨ ∃ te pe, ev = .iface te pe) :
    Calls Tryz.prog 48 #[.slice A n c] w fun e w' => (∃ y n a ok, e = .returned (.tuple #[.agg #[.int .i64 y, .int .i64 n, .int .i64 a], .bool ok]) ∧ votQ us = if ok then some (y, n, a) else none) ∧ Below w.heap.size w w' := by
  obtain ⟨i0, hi, hz0, hz1, hz2⟩ := info_parts Tryz.infoSt
  have b0 := below_alloc (w := w) (.cells #[.int .i64 0, .int .i64 0, .int .i64 0] 25)
  have orr : Own taV 3 (w.alloc (.cells #[.int .i64 0, .int .i64 0, .int .i64 0] 25)) w.heap.size 25 (some ⟨w.heap.size, 0, none⟩) 1 1 [⟨0, 0, 0⟩] := ⟨rfl, rfl, .inr ⟨_, _, _, rfl, Nat.le_refl _, heap_new rfl, by omega, by simp [maxLen], rfl, rfl⟩⟩
  have CP : Hid (∀ w1, Below w.heap.size w w1 → ∀ p : ByteArray, p.size ≤ 1048576 → ∀ v g, prI p = (v, g) → Calls Tryz.prog 64 #[.string p] w1 fun e w' => e = .returned (.tuple #[.int .i64 v, .bool g]) ∧ Below w1.heap.size w1 w') := fun w1 hb p hp v g e => by
    have h9 := ParseInt_any p ev w1 (by omega) (pow10_below hT hb) (cell_below hb hE) hev
    rw [e] at h9
    exact h9
  have hl := ha.len
  clear hT hE hev
  by_cases h3 : n = 3
  · subst h3
    obtain ⟨b, oo, s0, rfl, -, -⟩ := ha.st (i := 0) (by omega)
    have HC := Lib.hid (cloneS_any b oo 3 c us _ (ha.below b0) (by omega))
    have hgt : ∀ x ∈ us ++ [(⟨#[119, 105, 116, 104]⟩ : ByteArray), ⟨#[48]⟩], x.size ≤ 1048576 := by
      intro x hx
      rcases List.mem_append.1 hx with h | h
      · exact hg x h
      · rcases List.mem_cons.1 h with rfl | h
        · decide
        · rcases List.mem_cons.1 h with rfl | h
          · decide
          · cases h
    have HX := Lib.hid (show votX us = us ++ [(⟨#[119, 105, 116, 104]⟩ : ByteArray), ⟨#[48]⟩] from if_pos hl)
    clear ha hg
    go_enter Tryz.func48, Tryz.ntmps48
    go_wp2_with fail
    generalize hw1 : w.alloc (.cells #[.int .i64 0, .int .i64 0, .int .i64 0] 25) = w1 at *
    clear hw1
    refine HC.out.mono ?_
    rintro e w2 ⟨⟨B, d, rfl, ho⟩, b1⟩
    have t1 := below_trans b0 b1
    have s2 := b1.size
    have HO := Lib.hid ho
    clear ho HC
    go_wp2_with (first
      | (at_builtin
         refine wpList_pushAll rfl _ _ _ rfl w1.heap.size 9 i0 (.string ByteArray.empty) 1 16 Tryz.underlying55 hi hz0 hz1 hz2 rfl (by omega) stV stV_len one_st B 3 d us rfl (HO.out.alloc _) (some ⟨w2.heap.size, 0, none⟩) 2 2 [⟨#[119, 105, 116, 104]⟩, ⟨#[48]⟩] rfl ((own_texts w2 [⟨#[119, 105, 116, 104]⟩, ⟨#[48]⟩] (by simp [maxLen])).rd stV_len) (by simp only [maxLen]; omega) (by omega) (by first | simp; done | (simp; omega)) ?_
         intro B3 d3 w3 o3 g3
         have b3 := below_push (below_trans b1 (below_alloc _)) (HO.out.alloc _) g3 (Nat.le_refl _)
         have t3 := below_trans b0 b3
         replace orr := orr.below b3
         have RD := o3.rd stV_len
         obtain ⟨b1, o1, p0, hb1, hp0, c0⟩ := RD.st (i := 0) (by omega)
         obtain ⟨b2, o2, p2, hb2, hp2, c2⟩ := RD.st (i := 2) (by omega)
         obtain ⟨b4, o4, p4, hb4, hp4, c4⟩ := RD.st (i := 4) (by omega)
         subst hb1
         injection hb2 with hb2
         injection hb2 with hb2a hb2b
         subst hb2a hb2b
         injection hb4 with hb4
         injection hb4 with hb4a hb4b
         subst hb4a hb4b
         rw [Nat.add_zero] at c0
         obtain ⟨v0, g0, e0⟩ : ∃ v g, prI p0 = (v, g) := ⟨_, _, rfl⟩
         obtain ⟨v2, g2, e2⟩ : ∃ v g, prI p2 = (v, g) := ⟨_, _, rfl⟩
         obtain ⟨v4, g4, e4⟩ : ∃ v g, prI p4 = (v, g) := ⟨_, _, rfl⟩
         have V := Lib.hid (votQ_at HX.out (by simp; omega) hp0 hp2 hp4 e0 e2 e4)
         have P0 := Lib.hid (fun w1 hb => CP.out w1 hb p0 (hgt p0 (List.mem_of_getElem? hp0)) v0 g0 e0)
         have P2 := Lib.hid (fun w1 hb => CP.out w1 hb p2 (hgt p2 (List.mem_of_getElem? hp2)) v2 g2 e2)
         have P4 := Lib.hid (fun w1 hb => CP.out w1 hb p4 (hgt p4 (List.mem_of_getElem? hp4)) v4 g4 e4)
         clear hp0 hp2 hp4 e0 e2 e4 CP)
      | fail)
    refine (P0.out _ t3).mono ?_
    rintro e wa ⟨rfl, ba⟩
    have ta := below_trans t3 ba
    replace c2 := cell_below ba c2
    replace c4 := cell_below ba c4
    replace orr := orr.below ba
    clear c0
    go_wp2_with fail
    refine (P2.out _ ta).mono ?_
    rintro e wb ⟨rfl, bb⟩
    have tb := below_trans ta bb
    replace c4 := cell_below bb c4
    replace orr := orr.below bb
    clear c2
    go_wp2_with fail
    refine (P4.out _ tb).mono ?_
    rintro e wd ⟨rfl, bd⟩
    have td := below_trans tb bd
    replace orr := orr.below bd
    clear c4 P0 P2 P4
    cases g0 <;> cases g2 <;> cases g4
    · have z0 := orr.cell taV_len (i := 0) (j := 0) rfl rfl
      have z1 := orr.cell taV_len (i := 0) (j := 1) rfl rfl
      have z2 := orr.cell taV_len (i := 0) (j := 2) rfl rfl
      have f0 := orr.frozen 0
      have f1 := orr.frozen 1
      have f2 := orr.frozen 2
      simp only [Nat.zero_mul, Nat.zero_add] at z0 z1 z2
      go_wp2
      exact bodyPost_ret (v := .tuple #[.agg #[.int .i64 v0, .int .i64 v2, .int .i64 v4], .bool false]) (by simp [results, Tryz.results48, go_sem, z0, z1, z2]) rfl ⟨⟨_, _, _, _, rfl, by rw [V.out]; rfl⟩, by first | exact below_setCell (below_setCell (below_setCell td _ _ _ (Nat.le_refl _)) _ _ _ (Nat.le_refl _)) _ _ _ (Nat.le_refl _) | exact td⟩
    · have z0 := orr.cell taV_len (i := 0) (j := 0) rfl rfl
      have z1 := orr.cell taV_len (i := 0) (j := 1) rfl rfl
      have z2 := orr.cell taV_len (i := 0) (j := 2) rfl rfl
      have f0 := orr.frozen 0
      have f1 := orr.frozen 1
      have f2 := orr.frozen 2
      simp only [Nat.zero_mul, Nat.zero_add] at z0 z1 z2
      go_wp2
      exact bodyPost_ret (v := .tuple #[.agg #[.int .i64 v0, .int .i64 v2, .int .i64 v4], .bool false]) (by simp [results, Tryz.results48, go_sem, z0, z1, z2]) rfl ⟨⟨_, _, _, _, rfl, by rw [V.out]; rfl⟩, by first | exact below_setCell (below_setCell (below_setCell td _ _ _ (Nat.le_refl _)) _ _ _ (Nat.le_refl _)) _ _ _ (Nat.le_refl _) | exact td⟩
    · have z0 := orr.cell taV_len (i := 0) (j := 0) rfl rfl
      have z1 := orr.cell taV_len (i := 0) (j := 1) rfl rfl
      have z2 := orr.cell taV_len (i := 0) (j := 2) rfl rfl
      have f0 := orr.frozen 0
      have f1 := orr.frozen 1
      have f2 := orr.frozen 2
      simp only [Nat.zero_mul, Nat.zero_add] at z0 z1 z2
      go_wp2
      exact bodyPost_ret (v := .tuple #[.agg #[.int .i64 v0, .int .i64 v2, .int .i64 v4], .bool false]) (by simp [results, Tryz.results48, go_sem, z0, z1, z2]) rfl ⟨⟨_, _, _, _, rfl, by rw [V.out]; rfl⟩, by first | exact below_setCell (below_setCell (below_setCell td _ _ _ (Nat.le_refl _)) _ _ _ (Nat.le_refl _)) _ _ _ (Nat.le_refl _) | exact td⟩
    · have z0 := orr.cell taV_len (i := 0) (j := 0) rfl rfl
      have z1 := orr.cell taV_len (i := 0) (j := 1) rfl rfl
      have z2 := orr.cell taV_len (i := 0) (j := 2) rfl rfl
      have f0 := orr.frozen 0
      have f1 := orr.frozen 1
      have f2 := orr.frozen 2
      simp only [Nat.zero_mul, Nat.zero_add] at z0 z1 z2
      go_wp2
      exact bodyPost_ret (v := .tuple #[.agg #[.int .i64 v0, .int .i64 v2, .int .i64 v4], .bool false]) (by simp [results, Tryz.results48, go_sem, z0, z1, z2]) rfl ⟨⟨_, _, _, _, rfl, by rw [V.out]; rfl⟩, by first | exact below_setCell (below_setCell (below_setCell td _ _ _ (Nat.le_refl _)) _ _ _ (Nat.le_refl _)) _ _ _ (Nat.le_refl _) | exact td⟩
    · have z0 := orr.cell taV_len (i := 0) (j := 0) rfl rfl
      have z1 := orr.cell taV_len (i := 0) (j := 1) rfl rfl
      have z2 := orr.cell taV_len (i := 0) (j := 2) rfl rfl
      have f0 := orr.frozen 0
      have f1 := orr.frozen 1
      have f2 := orr.frozen 2
      simp only [Nat.zero_mul, Nat.zero_add] at z0 z1 z2
      go_wp2
      exact bodyPost_ret (v := .tuple #[.agg #[.int .i64 v0, .int .i64 v2, .int .i64 v4], .bool false]) (by simp [results, Tryz.results48, go_sem, z0, z1, z2]) rfl ⟨⟨_, _, _, _, rfl, by rw [V.out]; rfl⟩, by first | exact below_setCell (below_setCell (below_setCell td _ _ _ (Nat.le_refl _)) _ _ _ (Nat.le_refl _)) _ _ _ (Nat.le_refl _) | exact td⟩
    · have z0 := orr.cell taV_len (i := 0) (j := 0) rfl rfl
      have z1 := orr.cell taV_len (i := 0) (j := 1) rfl rfl
      have z2 := orr.cell taV_len (i := 0) (j := 2) rfl rfl
      have f0 := orr.frozen 0
      have f1 := orr.frozen 1
      have f2 := orr.frozen 2
      simp only [Nat.zero_mul, Nat.zero_add] at z0 z1 z2
      go_wp2
      exact bodyPost_ret (v := .tuple #[.agg #[.int .i64 v0, .int .i64 v2, .int .i64 v4], .bool false]) (by simp [results, Tryz.results48, go_sem, z0, z1, z2]) rfl ⟨⟨_, _, _, _, rfl, by rw [V.out]; rfl⟩, by first | exact below_setCell (below_setCell (below_setCell td _ _ _ (Nat.le_refl _)) _ _ _ (Nat.le_refl _)) _ _ _ (Nat.le_refl _) | exact td⟩
    · have z0 := orr.cell taV_len (i := 0) (j := 0) rfl rfl
      have z1 := orr.cell taV_len (i := 0) (j := 1) rfl rfl
      have z2 := orr.cell taV_len (i := 0) (j := 2) rfl rfl
      have f0 := orr.frozen 0
      have f1 := orr.frozen 1
      have f2 := orr.frozen 2
      simp only [Nat.zero_mul, Nat.zero_add] at z0 z1 z2
      go_wp2
      exact bodyPost_ret (v := .tuple #[.agg #[.int .i64 v0, .int .i64 v2, .int .i64 v4], .bool false]) (by simp [results, Tryz.results48, go_sem, z0, z1, z2]) rfl ⟨⟨_, _, _, _, rfl, by rw [V.out]; rfl⟩, by first | exact below_setCell (below_setCell (below_setCell td _ _ _ (Nat.le_refl _)) _ _ _ (Nat.le_refl _)) _ _ _ (Nat.le_refl _) | exact td⟩
    · have z0 := orr.cell taV_len (i := 0) (j := 0) rfl rfl
      have z1 := orr.cell taV_len (i := 0) (j := 1) rfl rfl
      have z2 := orr.cell taV_len (i := 0) (j := 2) rfl rfl
      have f0 := orr.frozen 0
      have f1 := orr.frozen 1
      have f2 := orr.frozen 2
      simp only [Nat.zero_mul, Nat.zero_add] at z0 z1 z2
      go_wp2
      exact bodyPost_ret (v := .tuple #[.agg #[.int .i64 v0, .int .i64 v2, .int .i64 v4], .bool true]) (by simp [results, Tryz.results48, go_sem, z0, z1, z2]) rfl ⟨⟨_, _, _, _, rfl, by rw [V.out]; rfl⟩, by first | exact below_setCell (below_setCell (below_setCell td _ _ _ (Nat.le_refl _)) _ _ _ (Nat.le_refl _)) _ _ _ (Nat.le_refl _) | exact td⟩
  · have hgt := hg
    by_cases h5 : n < 5
    · have V := Lib.hid (votQ_few (us := us) (by omega) (by omega))
      have hq1 : ((n : Int) == 3) = false := by rw [beq_eq_false_iff_ne]; omega
      have hq2 : (n : Int) < 5 := by omega
      clear CP ha hg hgt h3 h5
      go_enter Tryz.func48, Tryz.ntmps48
      have z0 := orr.cell taV_len (i := 0) (j := 0) rfl rfl
      have z1 := orr.cell taV_len (i := 0) (j := 1) rfl rfl
      have z2 := orr.cell taV_len (i := 0) (j := 2) rfl rfl
      have f0 := orr.frozen 0
      have f1 := orr.frozen 1
      have f2 := orr.frozen 2
      simp only [Nat.zero_mul, Nat.zero_add] at z0 z1 z2
      go_wp2
      exact bodyPost_ret (v := .tuple #[.agg #[.int .i64 0, .int .i64 0, .int .i64 0], .bool false]) (by simp [results, Tryz.results48, go_sem, z0, z1, z2]) rfl ⟨⟨_, _, _, _, rfl, by rw [V.out]; rfl⟩, by first | exact below_setCell (below_setCell (below_setCell b0 _ _ _ (Nat.le_refl _)) _ _ _ (Nat.le_refl _)) _ _ _ (Nat.le_refl _) | exact b0⟩
    · have hq1 : ((n : Int) == 3) = false := by rw [beq_eq_false_iff_ne]; omega
      have hq2 : ¬ (n : Int) < 5 := by omega
      have h5' : 5 ≤ us.length := by omega
      have hx : votX us = us := if_neg (by omega)
      have RD := ha.below b0
      clear ha hg
      go_enter Tryz.func48, Tryz.ntmps48
      obtain ⟨b1, o1, p0, hb1, hp0, c0⟩ := RD.st (i := 0) (by omega)
      obtain ⟨b2, o2, p2, hb2, hp2, c2⟩ := RD.st (i := 2) (by omega)
      obtain ⟨b4, o4, p4, hb4, hp4, c4⟩ := RD.st (i := 4) (by omega)
      subst hb1
      injection hb2 with hb2
      injection hb2 with hb2a hb2b
      subst hb2a hb2b
      injection hb4 with hb4
      injection hb4 with hb4a hb4b
      subst hb4a hb4b
      rw [Nat.add_zero] at c0
      obtain ⟨v0, g0, e0⟩ : ∃ v g, prI p0 = (v, g) := ⟨_, _, rfl⟩
      obtain ⟨v2, g2, e2⟩ : ∃ v g, prI p2 = (v, g) := ⟨_, _, rfl⟩
      obtain ⟨v4, g4, e4⟩ : ∃ v g, prI p4 = (v, g) := ⟨_, _, rfl⟩
      have V := Lib.hid (votQ_at hx h5' hp0 hp2 hp4 e0 e2 e4)
      have P0 := Lib.hid (fun w1 hb => CP.out w1 hb p0 (hgt p0 (List.mem_of_getElem? hp0)) v0 g0 e0)
      have P2 := Lib.hid (fun w1 hb => CP.out w1 hb p2 (hgt p2 (List.mem_of_getElem? hp2)) v2 g2 e2)
      have P4 := Lib.hid (fun w1 hb => CP.out w1 hb p4 (hgt p4 (List.mem_of_getElem? hp4)) v4 g4 e4)
      clear hp0 hp2 hp4 e0 e2 e4 CP
      go_wp2_with fail
      refine (P0.out _ b0).mono ?_
      rintro e wa ⟨rfl, ba⟩
      have ta := below_trans b0 ba
      replace c2 := cell_below ba c2
      replace c4 := cell_below ba c4
      replace orr := orr.below ba
      clear c0
      go_wp2_with fail
      refine (P2.out _ ta).mono ?_
      rintro e wb ⟨rfl, bb⟩
      have tb := below_trans ta bb
      replace c4 := cell_below bb c4
      replace orr := orr.below bb
      clear c2
      go_wp2_with fail
      refine (P4.out _ tb).mono ?_
      rintro e wd ⟨rfl, bd⟩
      have td := below_trans tb bd
      replace orr := orr.below bd
      clear c4 P0 P2 P4
      cases g0 <;> cases g2 <;> cases g4
      · have z0 := orr.cell taV_len (i := 0) (j := 0) rfl rfl
        have z1 := orr.cell taV_len (i := 0) (j := 1) rfl rfl
        have z2 := orr.cell taV_len (i := 0) (j := 2) rfl rfl
        have f0 := orr.frozen 0
        have f1 := orr.frozen 1
        have f2 := orr.frozen 2
        simp only [Nat.zero_mul, Nat.zero_add] at z0 z1 z2
        go_wp2
        exact bodyPost_ret (v := .tuple #[.agg #[.int .i64 v0, .int .i64 v2, .int .i64 v4], .bool false]) (by simp [results, Tryz.results48, go_sem, z0, z1, z2]) rfl ⟨⟨_, _, _, _, rfl, by rw [V.out]; rfl⟩, by first | exact below_setCell (below_setCell (below_setCell td _ _ _ (Nat.le_refl _)) _ _ _ (Nat.le_refl _)) _ _ _ (Nat.le_refl _) | exact td⟩
      · have z0 := orr.cell taV_len (i := 0) (j := 0) rfl rfl
        have z1 := orr.cell taV_len (i := 0) (j := 1) rfl rfl
        have z2 := orr.cell taV_len (i := 0) (j := 2) rfl rfl
        have f0 := orr.frozen 0
        have f1 := orr.frozen 1
        have f2 := orr.frozen 2
        simp only [Nat.zero_mul, Nat.zero_add] at z0 z1 z2
        go_wp2
        exact bodyPost_ret (v := .tuple #[.agg #[.int .i64 v0, .int .i64 v2, .int .i64 v4], .bool false]) (by simp [results, Tryz.results48, go_sem, z0, z1, z2]) rfl ⟨⟨_, _, _, _, rfl, by rw [V.out]; rfl⟩, by first | exact below_setCell (below_setCell (below_setCell td _ _ _ (Nat.le_refl _)) _ _ _ (Nat.le_refl _)) _ _ _ (Nat.le_refl _) | exact td⟩
      · have z0 := orr.cell taV_len (i := 0) (j := 0) rfl rfl
        have z1 := orr.cell taV_len (i := 0) (j := 1) rfl rfl
        have z2 := orr.cell taV_len (i := 0) (j := 2) rfl rfl
        have f0 := orr.frozen 0
        have f1 := orr.frozen 1
        have f2 := orr.frozen 2
        simp only [Nat.zero_mul, Nat.zero_add] at z0 z1 z2
        go_wp2
        exact bodyPost_ret (v := .tuple #[.agg #[.int .i64 v0, .int .i64 v2, .int .i64 v4], .bool false]) (by simp [results, Tryz.results48, go_sem, z0, z1, z2]) rfl ⟨⟨_, _, _, _, rfl, by rw [V.out]; rfl⟩, by first | exact below_setCell (below_setCell (below_setCell td _ _ _ (Nat.le_refl _)) _ _ _ (Nat.le_refl _)) _ _ _ (Nat.le_refl _) | exact td⟩
      · have z0 := orr.cell taV_len (i := 0) (j := 0) rfl rfl
        have z1 := orr.cell taV_len (i := 0) (j := 1) rfl rfl
        have z2 := orr.cell taV_len (i := 0) (j := 2) rfl rfl
        have f0 := orr.frozen 0
        have f1 := orr.frozen 1
        have f2 := orr.frozen 2
        simp only [Nat.zero_mul, Nat.zero_add] at z0 z1 z2
        go_wp2
        exact bodyPost_ret (v := .tuple #[.agg #[.int .i64 v0, .int .i64 v2, .int .i64 v4], .bool false]) (by simp [results, Tryz.results48, go_sem, z0, z1, z2]) rfl ⟨⟨_, _, _, _, rfl, by rw [V.out]; rfl⟩, by first | exact below_setCell (below_setCell (below_setCell td _ _ _ (Nat.le_refl _)) _ _ _ (Nat.le_refl _)) _ _ _ (Nat.le_refl _) | exact td⟩
      · have z0 := orr.cell taV_len (i := 0) (j := 0) rfl rfl
        have z1 := orr.cell taV_len (i := 0) (j := 1) rfl rfl
        have z2 := orr.cell taV_len (i := 0) (j := 2) rfl rfl
        have f0 := orr.frozen 0
        have f1 := orr.frozen 1
        have f2 := orr.frozen 2
        simp only [Nat.zero_mul, Nat.zero_add] at z0 z1 z2
        go_wp2
        exact bodyPost_ret (v := .tuple #[.agg #[.int .i64 v0, .int .i64 v2, .int .i64 v4], .bool false]) (by simp [results, Tryz.results48, go_sem, z0, z1, z2]) rfl ⟨⟨_, _, _, _, rfl, by rw [V.out]; rfl⟩, by first | exact below_setCell (below_setCell (below_setCell td _ _ _ (Nat.le_refl _)) _ _ _ (Nat.le_refl _)) _ _ _ (Nat.le_refl _) | exact td⟩
      · have z0 := orr.cell taV_len (i := 0) (j := 0) rfl rfl
        have z1 := orr.cell taV_len (i := 0) (j := 1) rfl rfl
        have z2 := orr.cell taV_len (i := 0) (j := 2) rfl rfl
        have f0 := orr.frozen 0
        have f1 := orr.frozen 1
        have f2 := orr.frozen 2
        simp only [Nat.zero_mul, Nat.zero_add] at z0 z1 z2
        go_wp2
        exact bodyPost_ret (v := .tuple #[.agg #[.int .i64 v0, .int .i64 v2, .int .i64 v4], .bool false]) (by simp [results, Tryz.results48, go_sem, z0, z1, z2]) rfl ⟨⟨_, _, _, _, rfl, by rw [V.out]; rfl⟩, by first | exact below_setCell (below_setCell (below_setCell td _ _ _ (Nat.le_refl _)) _ _ _ (Nat.le_refl _)) _ _ _ (Nat.le_refl _) | exact td⟩
      · have z0 := orr.cell taV_len (i := 0) (j := 0) rfl rfl
        have z1 := orr.cell taV_len (i := 0) (j := 1) rfl rfl
        have z2 := orr.cell taV_len (i := 0) (j := 2) rfl rfl
        have f0 := orr.frozen 0
        have f1 := orr.frozen 1
        have f2 := orr.frozen 2
        simp only [Nat.zero_mul, Nat.zero_add] at z0 z1 z2
        go_wp2
        exact bodyPost_ret (v := .tuple #[.agg #[.int .i64 v0, .int .i64 v2, .int .i64 v4], .bool false]) (by simp [results, Tryz.results48, go_sem, z0, z1, z2]) rfl ⟨⟨_, _, _, _, rfl, by rw [V.out]; rfl⟩, by first | exact below_setCell (below_setCell (below_setCell td _ _ _ (Nat.le_refl _)) _ _ _ (Nat.le_refl _)) _ _ _ (Nat.le_refl _) | exact td⟩
      · have z0 := orr.cell taV_len (i := 0) (j := 0) rfl rfl
        have z1 := orr.cell taV_len (i := 0) (j := 1) rfl rfl
        have z2 := orr.cell taV_len (i := 0) (j := 2) rfl rfl
        have f0 := orr.frozen 0
        have f1 := orr.frozen 1
        have f2 := orr.frozen 2
        simp only [Nat.zero_mul, Nat.zero_add] at z0 z1 z2
        go_wp2
        exact bodyPost_ret (v := .tuple #[.agg #[.int .i64 v0, .int .i64 v2, .int .i64 v4], .bool true]) (by simp [results, Tryz.results48, go_sem, z0, z1, z2]) rfl ⟨⟨_, _, _, _, rfl, by rw [V.out]; rfl⟩, by first | exact below_setCell (below_setCell (below_setCell td _ _ _ (Nat.le_refl _)) _ _ _ (Nat.le_refl _)) _ _ _ (Nat.le_refl _) | exact td⟩

end Go.Proofs.YthphjncgbaknnaaGreatDoor
