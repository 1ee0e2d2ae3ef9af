/-
  YthphjncgbaknnaaGreatDoorMinG2: ParseEntry on the reference's side, by contracts. (Printed by wip/gen/ming.py.)
-/
import Derived.Test.YthphjncgbaknnaaGreatDoorMinG0
namespace Go.Proofs.YthphjncgbaknnaaGreatDoor
open Go Go.RowKit Go.Sort
set_option linter.unusedVariables false
set_option linter.unusedSimpArgs false

set_option maxRecDepth 100000 in
set_option maxHeartbeats 40000000 in
theorem l21Parse_2 (s : ByteArray) (w : World) (hs : s.size ≤ 1048576) (hc : (10 ≤ (cutS (s.extract 0 (s.size - 1)) 32).length ∧ wdI (cutS (s.extract 0 (s.size - 1)) 32) 1 = (⟨#[109, 111, 116, 105, 111, 110]⟩ : ByteArray)) ∧ (cutS (s.extract 0 (s.size - 1)) 32).length = 13) :
    Calls Tryz.prog 29 #[.string s] w fun e w' => e = .returned (.tuple #[.agg #[.int .i64 (parE s).1.kind, .string (parE s).1.who, .string (parE s).1.mo, .int .i64 (parE s).1.yes, .int .i64 (parE s).1.no, .int .i64 (parE s).1.ab, .bool (parE s).1.pa], .bool (parE s).2]) ∧ Below w.heap.size w w' := by
  have b0 := below_alloc (w := w) (.cells #[.int .i64 0, .string ⟨#[]⟩, .string ⟨#[]⟩, .int .i64 0, .int .i64 0, .int .i64 0, .bool false] 27)
  have orr : Own enV 7 (w.alloc (.cells #[.int .i64 0, .string ⟨#[]⟩, .string ⟨#[]⟩, .int .i64 0, .int .i64 0, .int .i64 0, .bool false] 27)) w.heap.size 27 (some ⟨w.heap.size, 0, none⟩) 1 1 [⟨0, ⟨#[]⟩, ⟨#[]⟩, 0, 0, 0, false⟩] := ⟨rfl, rfl, .inr ⟨_, _, _, rfl, Nat.le_refl _, heap_new rfl, by omega, by simp [maxLen], rfl, rfl⟩⟩
  have b0' := below_alloc (w := w.alloc (.cells #[.int .i64 0, .string ⟨#[]⟩, .string ⟨#[]⟩, .int .i64 0, .int .i64 0, .int .i64 0, .bool false] 27)) (.cells #[.int .i64 0, .string ⟨#[]⟩, .string ⟨#[]⟩, .int .i64 0, .int .i64 0, .int .i64 0, .bool false] 27)
  have nrr : Own enV 7 ((w.alloc (.cells #[.int .i64 0, .string ⟨#[]⟩, .string ⟨#[]⟩, .int .i64 0, .int .i64 0, .int .i64 0, .bool false] 27)).alloc (.cells #[.int .i64 0, .string ⟨#[]⟩, .string ⟨#[]⟩, .int .i64 0, .int .i64 0, .int .i64 0, .bool false] 27)) (w.alloc (.cells #[.int .i64 0, .string ⟨#[]⟩, .string ⟨#[]⟩, .int .i64 0, .int .i64 0, .int .i64 0, .bool false] 27)).heap.size 27 (some ⟨(w.alloc (.cells #[.int .i64 0, .string ⟨#[]⟩, .string ⟨#[]⟩, .int .i64 0, .int .i64 0, .int .i64 0, .bool false] 27)).heap.size, 0, none⟩) 1 1 [⟨0, ⟨#[]⟩, ⟨#[]⟩, 0, 0, 0, false⟩] := ⟨rfl, rfl, .inr ⟨_, _, _, rfl, Nat.le_refl _, heap_new rfl, by omega, by simp [maxLen], rfl, rfl⟩⟩
  replace orr := orr.below b0'
  replace b0 := below_trans b0 b0'
  have hsz0 : ((w.alloc (.cells #[.int .i64 0, .string ⟨#[]⟩, .string ⟨#[]⟩, .int .i64 0, .int .i64 0, .int .i64 0, .bool false] 27)).alloc (.cells #[.int .i64 0, .string ⟨#[]⟩, .string ⟨#[]⟩, .int .i64 0, .int .i64 0, .int .i64 0, .bool false] 27)).heap.size = w.heap.size + 2 := by simp
  simp only [World.size_alloc] at nrr
  clear b0'
  by_cases h80 : 80 < s.size
  · have h80' : 80 < (s.size : Int) := by omega
    have E := Lib.hid (parE_none (s := s) (fun y hy e => by have := senS_80 (of_decide_eq_true hy); rw [e] at this; omega))
    clear hsz0
    go_enter Tryz.func29, Tryz.ntmps29
    have n0 := nrr.cell enV_len (i := 0) (j := 0) rfl rfl
    have n1 := nrr.cell enV_len (i := 0) (j := 1) rfl rfl
    have n2 := nrr.cell enV_len (i := 0) (j := 2) rfl rfl
    have n3 := nrr.cell enV_len (i := 0) (j := 3) rfl rfl
    have n4 := nrr.cell enV_len (i := 0) (j := 4) rfl rfl
    have n5 := nrr.cell enV_len (i := 0) (j := 5) rfl rfl
    have n6 := nrr.cell enV_len (i := 0) (j := 6) rfl rfl
    simp only [Nat.zero_mul, Nat.zero_add] at n0 n1 n2 n3 n4 n5 n6
    have z0 := orr.cell enV_len (i := 0) (j := 0) rfl rfl
    have z1 := orr.cell enV_len (i := 0) (j := 1) rfl rfl
    have z2 := orr.cell enV_len (i := 0) (j := 2) rfl rfl
    have z3 := orr.cell enV_len (i := 0) (j := 3) rfl rfl
    have z4 := orr.cell enV_len (i := 0) (j := 4) rfl rfl
    have z5 := orr.cell enV_len (i := 0) (j := 5) rfl rfl
    have z6 := orr.cell enV_len (i := 0) (j := 6) rfl rfl
    simp only [Nat.zero_mul, Nat.zero_add] at z0 z1 z2 z3 z4 z5 z6
    have f0 := orr.frozen 0
    have f1 := orr.frozen 1
    have f2 := orr.frozen 2
    have f3 := orr.frozen 3
    have f4 := orr.frozen 4
    have f5 := orr.frozen 5
    have f6 := orr.frozen 6
    go_wp2
    exact bodyPost_ret (v := .tuple #[.agg #[.int .i64 0, .string ⟨#[]⟩, .string ⟨#[]⟩, .int .i64 0, .int .i64 0, .int .i64 0, .bool false], .bool false]) (by simp [results, Tryz.results29, go_sem, z0, z1, z2, z3, z4, z5, z6]) rfl ⟨by rw [E.out], by exact b0⟩
  by_cases h2 : s.size < 2
  · have h80' : ¬ 80 < (s.size : Int) := by omega
    have h2' : (s.size : Int) < 2 := by omega
    have E := Lib.hid (parE_none (s := s) (fun y hy e => by have := senS_80 (of_decide_eq_true hy); rw [e] at this; omega))
    clear hsz0
    go_enter Tryz.func29, Tryz.ntmps29
    have n0 := nrr.cell enV_len (i := 0) (j := 0) rfl rfl
    have n1 := nrr.cell enV_len (i := 0) (j := 1) rfl rfl
    have n2 := nrr.cell enV_len (i := 0) (j := 2) rfl rfl
    have n3 := nrr.cell enV_len (i := 0) (j := 3) rfl rfl
    have n4 := nrr.cell enV_len (i := 0) (j := 4) rfl rfl
    have n5 := nrr.cell enV_len (i := 0) (j := 5) rfl rfl
    have n6 := nrr.cell enV_len (i := 0) (j := 6) rfl rfl
    simp only [Nat.zero_mul, Nat.zero_add] at n0 n1 n2 n3 n4 n5 n6
    have z0 := orr.cell enV_len (i := 0) (j := 0) rfl rfl
    have z1 := orr.cell enV_len (i := 0) (j := 1) rfl rfl
    have z2 := orr.cell enV_len (i := 0) (j := 2) rfl rfl
    have z3 := orr.cell enV_len (i := 0) (j := 3) rfl rfl
    have z4 := orr.cell enV_len (i := 0) (j := 4) rfl rfl
    have z5 := orr.cell enV_len (i := 0) (j := 5) rfl rfl
    have z6 := orr.cell enV_len (i := 0) (j := 6) rfl rfl
    simp only [Nat.zero_mul, Nat.zero_add] at z0 z1 z2 z3 z4 z5 z6
    have f0 := orr.frozen 0
    have f1 := orr.frozen 1
    have f2 := orr.frozen 2
    have f3 := orr.frozen 3
    have f4 := orr.frozen 4
    have f5 := orr.frozen 5
    have f6 := orr.frozen 6
    go_wp2
    exact bodyPost_ret (v := .tuple #[.agg #[.int .i64 0, .string ⟨#[]⟩, .string ⟨#[]⟩, .int .i64 0, .int .i64 0, .int .i64 0, .bool false], .bool false]) (by simp [results, Tryz.results29, go_sem, z0, z1, z2, z3, z4, z5, z6]) rfl ⟨by rw [E.out], by exact b0⟩
  have h80' : ¬ 80 < (s.size : Int) := by omega
  have h2' : ¬ (s.size : Int) < 2 := by omega
  have hsub : IntKind.i64.wrap ((s.size : Int) - 1) = ((s.size - 1 : Nat) : Int) := by rw [IntWalk.i64_in _ (by omega)]; omega
  have hlt1 : s.size - 1 < s.size := by omega
  by_cases hd : s[s.size - 1] = 46
  rotate_left
  · have HD := Lib.hid hd
    have ht : ((s[s.size - 1].toNat : Int) == 46) = false := by
      rw [beq_eq_false_iff_ne]
      exact fun e => hd (UInt8.toNat_inj.1 (by have : (46 : UInt8).toNat = 46 := rfl; omega))
    have ht2 : ((s[s.size - 1].toNat : Int) != 46) = true := by rw [bne, ht]; rfl
    have E := Lib.hid (parE_none (s := s) (fun y hy e => by subst e; exact hd ((senS_ext (of_decide_eq_true hy)).2.2 hlt1)))
    clear hsz0 hd
    go_enter Tryz.func29, Tryz.ntmps29
    have n0 := nrr.cell enV_len (i := 0) (j := 0) rfl rfl
    have n1 := nrr.cell enV_len (i := 0) (j := 1) rfl rfl
    have n2 := nrr.cell enV_len (i := 0) (j := 2) rfl rfl
    have n3 := nrr.cell enV_len (i := 0) (j := 3) rfl rfl
    have n4 := nrr.cell enV_len (i := 0) (j := 4) rfl rfl
    have n5 := nrr.cell enV_len (i := 0) (j := 5) rfl rfl
    have n6 := nrr.cell enV_len (i := 0) (j := 6) rfl rfl
    simp only [Nat.zero_mul, Nat.zero_add] at n0 n1 n2 n3 n4 n5 n6
    have z0 := orr.cell enV_len (i := 0) (j := 0) rfl rfl
    have z1 := orr.cell enV_len (i := 0) (j := 1) rfl rfl
    have z2 := orr.cell enV_len (i := 0) (j := 2) rfl rfl
    have z3 := orr.cell enV_len (i := 0) (j := 3) rfl rfl
    have z4 := orr.cell enV_len (i := 0) (j := 4) rfl rfl
    have z5 := orr.cell enV_len (i := 0) (j := 5) rfl rfl
    have z6 := orr.cell enV_len (i := 0) (j := 6) rfl rfl
    simp only [Nat.zero_mul, Nat.zero_add] at z0 z1 z2 z3 z4 z5 z6
    have f0 := orr.frozen 0
    have f1 := orr.frozen 1
    have f2 := orr.frozen 2
    have f3 := orr.frozen 3
    have f4 := orr.frozen 4
    have f5 := orr.frozen 5
    have f6 := orr.frozen 6
    go_wp2
    exact bodyPost_ret (v := .tuple #[.agg #[.int .i64 0, .string ⟨#[]⟩, .string ⟨#[]⟩, .int .i64 0, .int .i64 0, .int .i64 0, .bool false], .bool false]) (by simp [results, Tryz.results29, go_sem, z0, z1, z2, z3, z4, z5, z6]) rfl ⟨by rw [E.out], by exact b0⟩
  have ht : ((s[s.size - 1].toNat : Int) == 46) = true := by rw [hd]; rfl
  have ht2 : ((s[s.size - 1].toNat : Int) != 46) = false := by rw [bne, ht]; rfl
  have HD := Lib.hid hd
  have hle1 : s.size - 1 ≤ s.size := by omega
  have hxz : (s.extract 0 (s.size - 1)).size ≤ 4194304 := by rw [ByteArray.size_extract]; omega
  have PE : Hid (parE s = if enOK (candE (cutS (s.extract 0 (s.size - 1)) 32)) = true ∧ senS (candE (cutS (s.extract 0 (s.size - 1)) 32)) = s then (candE (cutS (s.extract 0 (s.size - 1)) 32), true) else (⟨0, ⟨#[]⟩, ⟨#[]⟩, 0, 0, 0, false⟩, false)) := rfl
  have HZ0 : Hid (∀ x ∈ cutS (s.extract 0 (s.size - 1)) 32, x.size ≤ 1048576) := fun x hx => by have := cutS_size hx; rw [ByteArray.size_extract] at this; omega
  obtain ⟨ws, hws⟩ : ∃ ws, ws = cutS (s.extract 0 (s.size - 1)) 32 := ⟨_, rfl⟩
  have HCC := Lib.hid hc
  rw [← hws] at PE HZ0
  replace HCC := HCC.out
  rw [← hws] at HCC
  have HC := Lib.hid HCC
  clear hc HCC
  have HWS := Lib.hid hws
  have HZ := HZ0
  clear hws hd HZ0
  go_enter Tryz.func29, Tryz.ntmps29
  go_wp2_with fail
  refine (l1Split_any (s.extract 0 (s.size - 1)) 32 _ hxz).mono ?_
  rintro e w1 ⟨⟨B, q, d, rfl, ho⟩, b1⟩
  rw [← HWS.out] at ho
  have t1 := below_trans b0 b1
  have hs1 := b1.size
  replace orr := orr.below b1
  replace nrr := nrr.below b1
  have hl := ho.len
  have RD0 := Lib.hid (ho.rd stV_len)
  have hq1 : 0 < q := by
    have h9 := List.length_pos_iff.2 (cutS_ne (s.extract 0 (s.size - 1)) 32)
    rw [← HWS.out] at h9
    omega
  obtain ⟨bb, oo, p00, rfl, -, c00⟩ := RD0.out.st (i := 0) hq1
  have HBB := Lib.hid (show bb < w1.heap.size from lt_of_cell c00)
  clear c00
  clear b0 ho ht ht2 hxz hsub HWS HD
  go_upto_region 7 with fail
  have b3 := below_alloc (w := w1) (.cells #[.int .i64 0, .string ⟨#[]⟩, .string ⟨#[]⟩, .int .i64 0, .int .i64 0, .int .i64 0, .bool false] 27)
  have err : Own enV 7 (w1.alloc (.cells #[.int .i64 0, .string ⟨#[]⟩, .string ⟨#[]⟩, .int .i64 0, .int .i64 0, .int .i64 0, .bool false] 27)) w1.heap.size 27 (some ⟨w1.heap.size, 0, none⟩) 1 1 [⟨0, ⟨#[]⟩, ⟨#[]⟩, 0, 0, 0, false⟩] := ⟨rfl, rfl, .inr ⟨_, _, _, rfl, Nat.le_refl _, heap_new rfl, by omega, by simp [maxLen], rfl, rfl⟩⟩
  have HGo := Lib.hid (show w.heap.size < w1.heap.size by omega)
  have HGn := Lib.hid (show w.heap.size + 1 < w1.heap.size by omega)
  replace orr := orr.below b3
  replace nrr := nrr.below b3
  have RD := Lib.hid (RD0.out.below b3)
  have t3 := below_trans t1 b3
  generalize hw3 : w1.alloc (.cells #[.int .i64 0, .string ⟨#[]⟩, .string ⟨#[]⟩, .int .i64 0, .int .i64 0, .int .i64 0, .bool false] 27) = w3 at *
  generalize hg : w1.heap.size = g at *
  have hl' := Lib.hid hl
  clear hw3 b1 b3 hs1 t1 hsz0 hg RD0
  have HM2 := Lib.hid HC.out.1.2
  have h13 : q = 13 := by have := HC.out.2; omega
  subst h13
  obtain ⟨b', oo', p1, hb', hp1, cp1⟩ := RD.out.st (i := 1) (by omega)
  injection hb' with hb'
  injection hb' with hb1 hb2
  subst hb1 hb2
  have zp1 := HZ.out p1 (List.mem_of_getElem? hp1)
  have Xp1 := Lib.hid (wdI_at hp1)
  clear hp1
  obtain ⟨b', oo', p3, hb', hp3, cp3⟩ := RD.out.st (i := 3) (by omega)
  injection hb' with hb'
  injection hb' with hb1 hb2
  subst hb1 hb2
  have zp3 := HZ.out p3 (List.mem_of_getElem? hp3)
  have Xp3 := Lib.hid (wdI_at hp3)
  clear hp3
  have em : p1 = (⟨#[109, 111, 116, 105, 111, 110]⟩ : ByteArray) := Xp1.out.symm.trans HM2.out
  have e1 : p1 ≠ (⟨#[99, 104, 97, 105, 114]⟩ : ByteArray) := fun e => lits.1 (e.symm.trans em)
  have q1 := lt_f [99, 104, 97, 105, 114] (⟨#[99, 104, 97, 105, 114]⟩ : ByteArray) (by simp) e1
  have qm := lt_t [109, 111, 116, 105, 111, 110] (⟨#[109, 111, 116, 105, 111, 110]⟩ : ByteArray) (by simp) em
  obtain ⟨b', oo', p5, hb', hp5, cp5⟩ := RD.out.st (i := 5) (by omega)
  injection hb' with hb'
  injection hb' with hb1 hb2
  subst hb1 hb2
  have zp5 := HZ.out p5 (List.mem_of_getElem? hp5)
  have Xp5 := Lib.hid (wdI_at hp5)
  clear hp5
  obtain ⟨b', oo', p7, hb', hp7, cp7⟩ := RD.out.st (i := 7) (by omega)
  injection hb' with hb'
  injection hb' with hb1 hb2
  subst hb1 hb2
  have zp7 := HZ.out p7 (List.mem_of_getElem? hp7)
  have Xp7 := Lib.hid (wdI_at hp7)
  clear hp7
  obtain ⟨b', oo', p9, hb', hp9, cp9⟩ := RD.out.st (i := 9) (by omega)
  injection hb' with hb'
  injection hb' with hb1 hb2
  subst hb1 hb2
  have zp9 := HZ.out p9 (List.mem_of_getElem? hp9)
  have Xp9 := Lib.hid (wdI_at hp9)
  clear hp9
  obtain ⟨b', oo', p11, hb', hp11, cp11⟩ := RD.out.st (i := 11) (by omega)
  injection hb' with hb'
  injection hb' with hb1 hb2
  subst hb1 hb2
  have zp11 := HZ.out p11 (List.mem_of_getElem? hp11)
  have Xp11 := Lib.hid (wdI_at hp11)
  clear hp11
  have hx0 := (candE_5 (fun h => by have := h.1; have := hl'.out; omega) (fun h => by have := h.1; have := hl'.out; omega) (fun h => by have := h.1; have := hl'.out; omega) (fun h => by have := h.1; have := hl'.out; omega) (fun h => e1 (Xp1.out.symm.trans h.2.1)) ⟨by have := hl'.out; omega, Xp1.out.trans em⟩).trans (by rw [Xp3.out, Xp7.out, Xp9.out, Xp5.out, if_pos (by have := hl'.out; omega), Xp11.out, ← eq_ad])
  obtain ⟨n7, g7, e7⟩ : ∃ n g, rdP p7 = (n, g) := ⟨_, _, rfl⟩
  have R7 : Hid (∀ w2, Calls Tryz.prog 54 #[.string p7] w2 fun e w' => e = .returned (.tuple #[.int .i64 n7, .bool g7]) ∧ Below w2.heap.size w2 w') := fun w2 => by
    have h9 := l1Read_any p7 w2 (by omega)
    rw [e7] at h9
    exact h9
  obtain ⟨n9, g9, e9⟩ : ∃ n g, rdP p9 = (n, g) := ⟨_, _, rfl⟩
  have R9 : Hid (∀ w2, Calls Tryz.prog 54 #[.string p9] w2 fun e w' => e = .returned (.tuple #[.int .i64 n9, .bool g9]) ∧ Below w2.heap.size w2 w') := fun w2 => by
    have h9 := l1Read_any p9 w2 (by omega)
    rw [e9] at h9
    exact h9
  obtain ⟨n11, g11, e11⟩ : ∃ n g, rdP p11 = (n, g) := ⟨_, _, rfl⟩
  have R11 : Hid (∀ w2, Calls Tryz.prog 54 #[.string p11] w2 fun e w' => e = .returned (.tuple #[.int .i64 n11, .bool g11]) ∧ Below w2.heap.size w2 w') := fun w2 => by
    have h9 := l1Read_any p11 w2 (by omega)
    rw [e11] at h9
    exact h9
  rw [e7, e9, e11] at hx0
  have hx := Lib.hid hx0
  clear hx0 e7 e9 e11 e1 em
  have hm1 : (⟨#[]⟩ : ByteArray).size ≤ maxLen := Nat.zero_le _
  have hm2 : p3.size ≤ maxLen := by simp only [maxLen]; omega
  have PX : Hid (parE s = if enOK (⟨4, ⟨#[]⟩, p3, n7, n9, n11, (p5.toList == [97, 100, 111, 112, 116, 101, 100])⟩ : EN) = true ∧ senS (⟨4, ⟨#[]⟩, p3, n7, n9, n11, (p5.toList == [97, 100, 111, 112, 116, 101, 100])⟩ : EN) = s then ((⟨4, ⟨#[]⟩, p3, n7, n9, n11, (p5.toList == [97, 100, 111, 112, 116, 101, 100])⟩ : EN), true) else (⟨0, ⟨#[]⟩, ⟨#[]⟩, 0, 0, 0, false⟩, false)) := by have h9 := PE.out; rw [hx.out] at h9; exact h9
  have y0 := err.cell enV_len (i := 0) (j := 0) rfl rfl
  have y1 := err.cell enV_len (i := 0) (j := 1) rfl rfl
  have y2 := err.cell enV_len (i := 0) (j := 2) rfl rfl
  have y3 := err.cell enV_len (i := 0) (j := 3) rfl rfl
  have y4 := err.cell enV_len (i := 0) (j := 4) rfl rfl
  have y5 := err.cell enV_len (i := 0) (j := 5) rfl rfl
  have y6 := err.cell enV_len (i := 0) (j := 6) rfl rfl
  simp only [Nat.zero_mul, Nat.zero_add] at y0 y1 y2 y3 y4 y5 y6
  have f0 := err.frozen 0
  have f1 := err.frozen 1
  have f2 := err.frozen 2
  have f3 := err.frozen 3
  have f4 := err.frozen 4
  have f5 := err.frozen 5
  have f6 := err.frozen 6
  go_upto_region 18 with fail
  go_region
  go_wp2_with fail
  have bY : Below g w3 (putCells w3 g 0 (enV (⟨4, ⟨#[]⟩, p3, 0, 0, 0, (p5.toList == [97, 100, 111, 112, 116, 101, 100])⟩ : EN))) := below_puts (enV (⟨4, ⟨#[]⟩, p3, 0, 0, 0, (p5.toList == [97, 100, 111, 112, 116, 101, 100])⟩ : EN)) 0 (Below.refl g w3) (Nat.le_refl _)
  have errY := (err.puts enV_len 0 (⟨4, ⟨#[]⟩, p3, 0, 0, 0, (p5.toList == [97, 100, 111, 112, 116, 101, 100])⟩ : EN) (by omega)).1
  rw [Nat.zero_mul] at errY
  have orrY := orr.put_below bY (fun k hk => by cases hk; exact HGo.out)
  have nrrY := nrr.put_below bY (fun k hk => by cases hk; exact HGn.out)
  have tY : Below w.heap.size w (putCells w3 g 0 (enV (⟨4, ⟨#[]⟩, p3, 0, 0, 0, (p5.toList == [97, 100, 111, 112, 116, 101, 100])⟩ : EN))) := below_puts (enV (⟨4, ⟨#[]⟩, p3, 0, 0, 0, (p5.toList == [97, 100, 111, 112, 116, 101, 100])⟩ : EN)) 0 t3 (Nat.le_of_lt HGo.out)
  replace errY := errY.drew
  replace orrY := orrY.drew
  replace nrrY := nrrY.drew
  replace tY := tY.drew
  replace bY := bY.drew
  have m9 := (bY.cell (p := ⟨bb, oo + 9, none⟩) HBB.out).trans cp9
  have m11 := (bY.cell (p := ⟨bb, oo + 11, none⟩) HBB.out).trans cp11
  refine (R7.out _).mono ?_
  rintro e wa ⟨rfl, ba⟩
  have errA := errY.below ba
  have orrA := orrY.below ba
  have nrrA := nrrY.below ba
  have tA := below_trans tY ba
  have f3A := errA.frozen 3
  have yA0 := errA.cell enV_len (i := 0) (j := 0) rfl rfl
  have yA1 := errA.cell enV_len (i := 0) (j := 1) rfl rfl
  have yA2 := errA.cell enV_len (i := 0) (j := 2) rfl rfl
  have yA3 := errA.cell enV_len (i := 0) (j := 3) rfl rfl
  have yA4 := errA.cell enV_len (i := 0) (j := 4) rfl rfl
  have yA5 := errA.cell enV_len (i := 0) (j := 5) rfl rfl
  have yA6 := errA.cell enV_len (i := 0) (j := 6) rfl rfl
  simp only [Nat.zero_mul, Nat.zero_add] at yA0 yA1 yA2 yA3 yA4 yA5 yA6
  replace m9 := cell_below ba m9
  replace m11 := cell_below ba m11
  have hne1 : bb ≠ g := Nat.ne_of_lt HBB.out
  have hne2 : g ≠ bb := Nat.ne_of_gt HBB.out
  have errB := (errA.store enV_len (i := 0) (j := 3) (x := (⟨4, ⟨#[]⟩, p3, 0, 0, 0, (p5.toList == [97, 100, 111, 112, 116, 101, 100])⟩ : EN)) rfl (by omega) (⟨4, ⟨#[]⟩, p3, n7, 0, 0, (p5.toList == [97, 100, 111, 112, 116, 101, 100])⟩ : EN) (.int .i64 n7) rfl).1
  simp only [Nat.zero_mul, Nat.zero_add] at errB
  have bYB := below_setCell (Below.refl g wa) g 3 (.int .i64 n7) (Nat.le_refl _)
  have orrB := orrA.put_below bYB (fun k hk => by cases hk; exact HGo.out)
  have nrrB := nrrA.put_below bYB (fun k hk => by cases hk; exact HGn.out)
  have tB := below_setCell tA g 3 (.int .i64 n7) (Nat.le_of_lt HGo.out)
  have m9s := (bYB.cell (p := ⟨bb, oo + 9, none⟩) HBB.out).trans m9
  go_wp2_with fail
  replace m11 := (bYB.cell (p := ⟨bb, oo + 11, none⟩) HBB.out).trans m11
  refine (R9.out _).mono ?_
  rintro e wb ⟨rfl, bb9⟩
  have errC := errB.below bb9
  have orrC := orrB.below bb9
  have nrrC := nrrB.below bb9
  have tC := below_trans tB bb9
  have f4C := errC.frozen 4
  have yC0 := errC.cell enV_len (i := 0) (j := 0) rfl rfl
  have yC1 := errC.cell enV_len (i := 0) (j := 1) rfl rfl
  have yC2 := errC.cell enV_len (i := 0) (j := 2) rfl rfl
  have yC3 := errC.cell enV_len (i := 0) (j := 3) rfl rfl
  have yC4 := errC.cell enV_len (i := 0) (j := 4) rfl rfl
  have yC5 := errC.cell enV_len (i := 0) (j := 5) rfl rfl
  have yC6 := errC.cell enV_len (i := 0) (j := 6) rfl rfl
  simp only [Nat.zero_mul, Nat.zero_add] at yC0 yC1 yC2 yC3 yC4 yC5 yC6
  replace m11 := cell_below bb9 m11
  have errD := (errC.store enV_len (i := 0) (j := 4) (x := (⟨4, ⟨#[]⟩, p3, n7, 0, 0, (p5.toList == [97, 100, 111, 112, 116, 101, 100])⟩ : EN)) rfl (by omega) (⟨4, ⟨#[]⟩, p3, n7, n9, 0, (p5.toList == [97, 100, 111, 112, 116, 101, 100])⟩ : EN) (.int .i64 n9) rfl).1
  simp only [Nat.zero_mul, Nat.zero_add] at errD
  have bYD := below_setCell (Below.refl g wb) g 4 (.int .i64 n9) (Nat.le_refl _)
  have orrD := orrC.put_below bYD (fun k hk => by cases hk; exact HGo.out)
  have nrrD := nrrC.put_below bYD (fun k hk => by cases hk; exact HGn.out)
  have tD := below_setCell tC g 4 (.int .i64 n9) (Nat.le_of_lt HGo.out)
  have m11s := (bYD.cell (p := ⟨bb, oo + 11, none⟩) HBB.out).trans m11
  go_wp2_with fail
  refine (R11.out _).mono ?_
  rintro e wc1 ⟨rfl, bb11⟩
  have errE := errD.below bb11
  have orrE := orrD.below bb11
  have nrrE := nrrD.below bb11
  have tE := below_trans tD bb11
  have f5E := errE.frozen 5
  have yE0 := errE.cell enV_len (i := 0) (j := 0) rfl rfl
  have yE1 := errE.cell enV_len (i := 0) (j := 1) rfl rfl
  have yE2 := errE.cell enV_len (i := 0) (j := 2) rfl rfl
  have yE3 := errE.cell enV_len (i := 0) (j := 3) rfl rfl
  have yE4 := errE.cell enV_len (i := 0) (j := 4) rfl rfl
  have yE5 := errE.cell enV_len (i := 0) (j := 5) rfl rfl
  have yE6 := errE.cell enV_len (i := 0) (j := 6) rfl rfl
  simp only [Nat.zero_mul, Nat.zero_add] at yE0 yE1 yE2 yE3 yE4 yE5 yE6
  go_wp2_with fail
  have errF := (errE.store enV_len (i := 0) (j := 5) (x := (⟨4, ⟨#[]⟩, p3, n7, n9, 0, (p5.toList == [97, 100, 111, 112, 116, 101, 100])⟩ : EN)) rfl (by omega) (⟨4, ⟨#[]⟩, p3, n7, n9, n11, (p5.toList == [97, 100, 111, 112, 116, 101, 100])⟩ : EN) (.int .i64 n11) rfl).1
  simp only [Nat.zero_mul, Nat.zero_add] at errF
  have bYF := below_setCell (Below.refl g wc1) g 5 (.int .i64 n11) (Nat.le_refl _)
  have orrF := orrE.put_below bYF (fun k hk => by cases hk; exact HGo.out)
  have nrrF := nrrE.put_below bYF (fun k hk => by cases hk; exact HGn.out)
  have tF := below_setCell tE g 5 (.int .i64 n11) (Nat.le_of_lt HGo.out)
  have errY9 := errF
  have orrY9 := orrF
  have nrrY9 := nrrF
  have tY9 := tF
  refine (l21One_any (⟨4, ⟨#[]⟩, p3, n7, n9, n11, (p5.toList == [97, 100, 111, 112, 116, 101, 100])⟩ : EN) _ hm1 hm2).mono ?_
  rintro e w5 ⟨rfl, b5⟩
  have errZ := errY9.below b5
  have orrZ := orrY9.below b5
  have nrrZ := nrrY9.below b5
  have tZ := below_trans tY9 b5
  clear errY9 orrY9 nrrY9 tY9 b5
  cases hok : enOK (⟨4, ⟨#[]⟩, p3, n7, n9, n11, (p5.toList == [97, 100, 111, 112, 116, 101, 100])⟩ : EN)
  · have E := Lib.hid (PX.out.trans (if_neg (by rw [hok]; exact fun e => by cases e.1)))
    have n0 := nrrZ.cell enV_len (i := 0) (j := 0) rfl rfl
    have n1 := nrrZ.cell enV_len (i := 0) (j := 1) rfl rfl
    have n2 := nrrZ.cell enV_len (i := 0) (j := 2) rfl rfl
    have n3 := nrrZ.cell enV_len (i := 0) (j := 3) rfl rfl
    have n4 := nrrZ.cell enV_len (i := 0) (j := 4) rfl rfl
    have n5 := nrrZ.cell enV_len (i := 0) (j := 5) rfl rfl
    have n6 := nrrZ.cell enV_len (i := 0) (j := 6) rfl rfl
    simp only [Nat.zero_mul, Nat.zero_add] at n0 n1 n2 n3 n4 n5 n6
    have z0 := orrZ.cell enV_len (i := 0) (j := 0) rfl rfl
    have z1 := orrZ.cell enV_len (i := 0) (j := 1) rfl rfl
    have z2 := orrZ.cell enV_len (i := 0) (j := 2) rfl rfl
    have z3 := orrZ.cell enV_len (i := 0) (j := 3) rfl rfl
    have z4 := orrZ.cell enV_len (i := 0) (j := 4) rfl rfl
    have z5 := orrZ.cell enV_len (i := 0) (j := 5) rfl rfl
    have z6 := orrZ.cell enV_len (i := 0) (j := 6) rfl rfl
    simp only [Nat.zero_mul, Nat.zero_add] at z0 z1 z2 z3 z4 z5 z6
    have f0 := orrZ.frozen 0
    have f1 := orrZ.frozen 1
    have f2 := orrZ.frozen 2
    have f3 := orrZ.frozen 3
    have f4 := orrZ.frozen 4
    have f5 := orrZ.frozen 5
    have f6 := orrZ.frozen 6
    go_wp2
    exact bodyPost_ret (v := .tuple #[.agg #[.int .i64 0, .string ⟨#[]⟩, .string ⟨#[]⟩, .int .i64 0, .int .i64 0, .int .i64 0, .bool false], .bool false]) (by simp [results, Tryz.results29, go_sem, z0, z1, z2, z3, z4, z5, z6]) rfl ⟨by rw [E.out], by exact (below_setCell (below_setCell (below_setCell (below_setCell (below_setCell (below_setCell (below_setCell tZ _ _ _ (Nat.le_refl _)) _ _ _ (Nat.le_refl _)) _ _ _ (Nat.le_refl _)) _ _ _ (Nat.le_refl _)) _ _ _ (Nat.le_refl _)) _ _ _ (Nat.le_refl _)) _ _ _ (Nat.le_refl _))⟩
  · have HK := Lib.hid (of_decide_eq_true hok)
    have OK := Lib.hid hok
    have y0 := errZ.cell enV_len (i := 0) (j := 0) rfl rfl
    have y1 := errZ.cell enV_len (i := 0) (j := 1) rfl rfl
    have y2 := errZ.cell enV_len (i := 0) (j := 2) rfl rfl
    have y3 := errZ.cell enV_len (i := 0) (j := 3) rfl rfl
    have y4 := errZ.cell enV_len (i := 0) (j := 4) rfl rfl
    have y5 := errZ.cell enV_len (i := 0) (j := 5) rfl rfl
    have y6 := errZ.cell enV_len (i := 0) (j := 6) rfl rfl
    simp only [Nat.zero_mul, Nat.zero_add] at y0 y1 y2 y3 y4 y5 y6
    clear hok
    go_wp2_with fail
    refine (l21Text_any (⟨4, ⟨#[]⟩, p3, n7, n9, n11, (p5.toList == [97, 100, 111, 112, 116, 101, 100])⟩ : EN) _ HK.out).mono ?_
    rintro e w6 ⟨rfl, b6⟩
    replace errZ := errZ.below b6
    replace orrZ := orrZ.below b6
    replace nrrZ := nrrZ.below b6
    replace tZ := below_trans tZ b6
    clear y0 y1 y2 y3 y4 y5 y6 b6
    by_cases hse : senS (⟨4, ⟨#[]⟩, p3, n7, n9, n11, (p5.toList == [97, 100, 111, 112, 116, 101, 100])⟩ : EN) = s
    · have E := Lib.hid (PX.out.trans (if_pos ⟨OK.out, hse⟩))
      have hq1 := bytes_eq_t hse
      have hq2 := lt_tn hse
      clear hse
      have y0 := errZ.cell enV_len (i := 0) (j := 0) rfl rfl
      have y1 := errZ.cell enV_len (i := 0) (j := 1) rfl rfl
      have y2 := errZ.cell enV_len (i := 0) (j := 2) rfl rfl
      have y3 := errZ.cell enV_len (i := 0) (j := 3) rfl rfl
      have y4 := errZ.cell enV_len (i := 0) (j := 4) rfl rfl
      have y5 := errZ.cell enV_len (i := 0) (j := 5) rfl rfl
      have y6 := errZ.cell enV_len (i := 0) (j := 6) rfl rfl
      simp only [Nat.zero_mul, Nat.zero_add] at y0 y1 y2 y3 y4 y5 y6
      have z0 := orrZ.cell enV_len (i := 0) (j := 0) rfl rfl
      have z1 := orrZ.cell enV_len (i := 0) (j := 1) rfl rfl
      have z2 := orrZ.cell enV_len (i := 0) (j := 2) rfl rfl
      have z3 := orrZ.cell enV_len (i := 0) (j := 3) rfl rfl
      have z4 := orrZ.cell enV_len (i := 0) (j := 4) rfl rfl
      have z5 := orrZ.cell enV_len (i := 0) (j := 5) rfl rfl
      have z6 := orrZ.cell enV_len (i := 0) (j := 6) rfl rfl
      simp only [Nat.zero_mul, Nat.zero_add] at z0 z1 z2 z3 z4 z5 z6
      have f0 := orrZ.frozen 0
      have f1 := orrZ.frozen 1
      have f2 := orrZ.frozen 2
      have f3 := orrZ.frozen 3
      have f4 := orrZ.frozen 4
      have f5 := orrZ.frozen 5
      have f6 := orrZ.frozen 6
      go_wp2
      exact bodyPost_ret (v := .tuple #[.agg #[.int .i64 4, .string ⟨#[]⟩, .string p3, .int .i64 n7, .int .i64 n9, .int .i64 n11, .bool (p5.toList == [97, 100, 111, 112, 116, 101, 100])], .bool true]) (by simp [results, Tryz.results29, go_sem, z0, z1, z2, z3, z4, z5, z6]) rfl ⟨by rw [E.out], by exact (below_setCell (below_setCell (below_setCell (below_setCell (below_setCell (below_setCell (below_setCell tZ _ _ _ (Nat.le_refl _)) _ _ _ (Nat.le_refl _)) _ _ _ (Nat.le_refl _)) _ _ _ (Nat.le_refl _)) _ _ _ (Nat.le_refl _)) _ _ _ (Nat.le_refl _)) _ _ _ (Nat.le_refl _))⟩
    · have E := Lib.hid (PX.out.trans (if_neg (fun e => hse e.2)))
      have hq1 := bytes_eq_f hse
      have hq2 := lt_fn hse
      clear hse
      have n0 := nrrZ.cell enV_len (i := 0) (j := 0) rfl rfl
      have n1 := nrrZ.cell enV_len (i := 0) (j := 1) rfl rfl
      have n2 := nrrZ.cell enV_len (i := 0) (j := 2) rfl rfl
      have n3 := nrrZ.cell enV_len (i := 0) (j := 3) rfl rfl
      have n4 := nrrZ.cell enV_len (i := 0) (j := 4) rfl rfl
      have n5 := nrrZ.cell enV_len (i := 0) (j := 5) rfl rfl
      have n6 := nrrZ.cell enV_len (i := 0) (j := 6) rfl rfl
      simp only [Nat.zero_mul, Nat.zero_add] at n0 n1 n2 n3 n4 n5 n6
      have z0 := orrZ.cell enV_len (i := 0) (j := 0) rfl rfl
      have z1 := orrZ.cell enV_len (i := 0) (j := 1) rfl rfl
      have z2 := orrZ.cell enV_len (i := 0) (j := 2) rfl rfl
      have z3 := orrZ.cell enV_len (i := 0) (j := 3) rfl rfl
      have z4 := orrZ.cell enV_len (i := 0) (j := 4) rfl rfl
      have z5 := orrZ.cell enV_len (i := 0) (j := 5) rfl rfl
      have z6 := orrZ.cell enV_len (i := 0) (j := 6) rfl rfl
      simp only [Nat.zero_mul, Nat.zero_add] at z0 z1 z2 z3 z4 z5 z6
      have f0 := orrZ.frozen 0
      have f1 := orrZ.frozen 1
      have f2 := orrZ.frozen 2
      have f3 := orrZ.frozen 3
      have f4 := orrZ.frozen 4
      have f5 := orrZ.frozen 5
      have f6 := orrZ.frozen 6
      go_wp2
      exact bodyPost_ret (v := .tuple #[.agg #[.int .i64 0, .string ⟨#[]⟩, .string ⟨#[]⟩, .int .i64 0, .int .i64 0, .int .i64 0, .bool false], .bool false]) (by simp [results, Tryz.results29, go_sem, z0, z1, z2, z3, z4, z5, z6]) rfl ⟨by rw [E.out], by exact (below_setCell (below_setCell (below_setCell (below_setCell (below_setCell (below_setCell (below_setCell tZ _ _ _ (Nat.le_refl _)) _ _ _ (Nat.le_refl _)) _ _ _ (Nat.le_refl _)) _ _ _ (Nat.le_refl _)) _ _ _ (Nat.le_refl _)) _ _ _ (Nat.le_refl _)) _ _ _ (Nat.le_refl _))⟩
end Go.Proofs.YthphjncgbaknnaaGreatDoor
