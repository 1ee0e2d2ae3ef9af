/-
  YthphjncgbaknnaaGreatDoorMinG1: ParseEntry on the reference's side, by contracts. (Printed by wip/gen/ming.py.)
-/
import Derived.Test.YthphjncgbaknnaaGreatDoorMinG0
namespace Go.Proofs.YthphjncgbaknnaaGreatDoor
open Go Go.RowKit Go.Sort
set_option linter.unusedVariables false
set_option linter.unusedSimpArgs false

set_option maxRecDepth 100000 in
set_option maxHeartbeats 40000000 in
theorem l21Parse_1 (s : ByteArray) (w : World) (hs : s.size ≤ 1048576) (hc : ¬ (10 ≤ (cutS (s.extract 0 (s.size - 1)) 32).length ∧ wdI (cutS (s.extract 0 (s.size - 1)) 32) 1 = (⟨#[109, 111, 116, 105, 111, 110]⟩ : ByteArray))) :
    Calls Tryz.prog 29 #[.string s] w fun e w' => e = .returned (.tuple #[.agg #[.int .i64 (parE s).1.kind, .string (parE s).1.who, .string (parE s).1.mo, .int .i64 (parE s).1.yes, .int .i64 (parE s).1.no, .int .i64 (parE s).1.ab, .bool (parE s).1.pa], .bool (parE s).2]) ∧ Below w.heap.size w w' := by
  have b0 := below_alloc (w := w) (.cells #[.int .i64 0, .string ⟨#[]⟩, .string ⟨#[]⟩, .int .i64 0, .int .i64 0, .int .i64 0, .bool false] 27)
  have orr : Own enV 7 (w.alloc (.cells #[.int .i64 0, .string ⟨#[]⟩, .string ⟨#[]⟩, .int .i64 0, .int .i64 0, .int .i64 0, .bool false] 27)) w.heap.size 27 (some ⟨w.heap.size, 0, none⟩) 1 1 [⟨0, ⟨#[]⟩, ⟨#[]⟩, 0, 0, 0, false⟩] := ⟨rfl, rfl, .inr ⟨_, _, _, rfl, Nat.le_refl _, heap_new rfl, by omega, by simp [maxLen], rfl, rfl⟩⟩
  have b0' := below_alloc (w := w.alloc (.cells #[.int .i64 0, .string ⟨#[]⟩, .string ⟨#[]⟩, .int .i64 0, .int .i64 0, .int .i64 0, .bool false] 27)) (.cells #[.int .i64 0, .string ⟨#[]⟩, .string ⟨#[]⟩, .int .i64 0, .int .i64 0, .int .i64 0, .bool false] 27)
  have nrr : Own enV 7 ((w.alloc (.cells #[.int .i64 0, .string ⟨#[]⟩, .string ⟨#[]⟩, .int .i64 0, .int .i64 0, .int .i64 0, .bool false] 27)).alloc (.cells #[.int .i64 0, .string ⟨#[]⟩, .string ⟨#[]⟩, .int .i64 0, .int .i64 0, .int .i64 0, .bool false] 27)) (w.alloc (.cells #[.int .i64 0, .string ⟨#[]⟩, .string ⟨#[]⟩, .int .i64 0, .int .i64 0, .int .i64 0, .bool false] 27)).heap.size 27 (some ⟨(w.alloc (.cells #[.int .i64 0, .string ⟨#[]⟩, .string ⟨#[]⟩, .int .i64 0, .int .i64 0, .int .i64 0, .bool false] 27)).heap.size, 0, none⟩) 1 1 [⟨0, ⟨#[]⟩, ⟨#[]⟩, 0, 0, 0, false⟩] := ⟨rfl, rfl, .inr ⟨_, _, _, rfl, Nat.le_refl _, heap_new rfl, by omega, by simp [maxLen], rfl, rfl⟩⟩
  replace orr := orr.below b0'
  replace b0 := below_trans b0 b0'
  have hsz0 : ((w.alloc (.cells #[.int .i64 0, .string ⟨#[]⟩, .string ⟨#[]⟩, .int .i64 0, .int .i64 0, .int .i64 0, .bool false] 27)).alloc (.cells #[.int .i64 0, .string ⟨#[]⟩, .string ⟨#[]⟩, .int .i64 0, .int .i64 0, .int .i64 0, .bool false] 27)).heap.size = w.heap.size + 2 := by simp
  simp only [World.size_alloc] at nrr
  clear b0'
  by_cases h80 : 80 < s.size
  · have h80' : 80 < (s.size : Int) := by omega
    have E := Lib.hid (parE_none (s := s) (fun y hy e => by have := senS_80 (of_decide_eq_true hy); rw [e] at this; omega))
    clear hsz0
    go_enter Tryz.func29, Tryz.ntmps29
    have n0 := nrr.cell enV_len (i := 0) (j := 0) rfl rfl
    have n1 := nrr.cell enV_len (i := 0) (j := 1) rfl rfl
    have n2 := nrr.cell enV_len (i := 0) (j := 2) rfl rfl
    have n3 := nrr.cell enV_len (i := 0) (j := 3) rfl rfl
    have n4 := nrr.cell enV_len (i := 0) (j := 4) rfl rfl
    have n5 := nrr.cell enV_len (i := 0) (j := 5) rfl rfl
    have n6 := nrr.cell enV_len (i := 0) (j := 6) rfl rfl
    simp only [Nat.zero_mul, Nat.zero_add] at n0 n1 n2 n3 n4 n5 n6
    have z0 := orr.cell enV_len (i := 0) (j := 0) rfl rfl
    have z1 := orr.cell enV_len (i := 0) (j := 1) rfl rfl
    have z2 := orr.cell enV_len (i := 0) (j := 2) rfl rfl
    have z3 := orr.cell enV_len (i := 0) (j := 3) rfl rfl
    have z4 := orr.cell enV_len (i := 0) (j := 4) rfl rfl
    have z5 := orr.cell enV_len (i := 0) (j := 5) rfl rfl
    have z6 := orr.cell enV_len (i := 0) (j := 6) rfl rfl
    simp only [Nat.zero_mul, Nat.zero_add] at z0 z1 z2 z3 z4 z5 z6
    have f0 := orr.frozen 0
    have f1 := orr.frozen 1
    have f2 := orr.frozen 2
    have f3 := orr.frozen 3
    have f4 := orr.frozen 4
    have f5 := orr.frozen 5
    have f6 := orr.frozen 6
    go_wp2
    exact bodyPost_ret (v := .tuple #[.agg #[.int .i64 0, .string ⟨#[]⟩, .string ⟨#[]⟩, .int .i64 0, .int .i64 0, .int .i64 0, .bool false], .bool false]) (by simp [results, Tryz.results29, go_sem, z0, z1, z2, z3, z4, z5, z6]) rfl ⟨by rw [E.out], by exact b0⟩
  by_cases h2 : s.size < 2
  · have h80' : ¬ 80 < (s.size : Int) := by omega
    have h2' : (s.size : Int) < 2 := by omega
    have E := Lib.hid (parE_none (s := s) (fun y hy e => by have := senS_80 (of_decide_eq_true hy); rw [e] at this; omega))
    clear hsz0
    go_enter Tryz.func29, Tryz.ntmps29
    have n0 := nrr.cell enV_len (i := 0) (j := 0) rfl rfl
    have n1 := nrr.cell enV_len (i := 0) (j := 1) rfl rfl
    have n2 := nrr.cell enV_len (i := 0) (j := 2) rfl rfl
    have n3 := nrr.cell enV_len (i := 0) (j := 3) rfl rfl
    have n4 := nrr.cell enV_len (i := 0) (j := 4) rfl rfl
    have n5 := nrr.cell enV_len (i := 0) (j := 5) rfl rfl
    have n6 := nrr.cell enV_len (i := 0) (j := 6) rfl rfl
    simp only [Nat.zero_mul, Nat.zero_add] at n0 n1 n2 n3 n4 n5 n6
    have z0 := orr.cell enV_len (i := 0) (j := 0) rfl rfl
    have z1 := orr.cell enV_len (i := 0) (j := 1) rfl rfl
    have z2 := orr.cell enV_len (i := 0) (j := 2) rfl rfl
    have z3 := orr.cell enV_len (i := 0) (j := 3) rfl rfl
    have z4 := orr.cell enV_len (i := 0) (j := 4) rfl rfl
    have z5 := orr.cell enV_len (i := 0) (j := 5) rfl rfl
    have z6 := orr.cell enV_len (i := 0) (j := 6) rfl rfl
    simp only [Nat.zero_mul, Nat.zero_add] at z0 z1 z2 z3 z4 z5 z6
    have f0 := orr.frozen 0
    have f1 := orr.frozen 1
    have f2 := orr.frozen 2
    have f3 := orr.frozen 3
    have f4 := orr.frozen 4
    have f5 := orr.frozen 5
    have f6 := orr.frozen 6
    go_wp2
    exact bodyPost_ret (v := .tuple #[.agg #[.int .i64 0, .string ⟨#[]⟩, .string ⟨#[]⟩, .int .i64 0, .int .i64 0, .int .i64 0, .bool false], .bool false]) (by simp [results, Tryz.results29, go_sem, z0, z1, z2, z3, z4, z5, z6]) rfl ⟨by rw [E.out], by exact b0⟩
  have h80' : ¬ 80 < (s.size : Int) := by omega
  have h2' : ¬ (s.size : Int) < 2 := by omega
  have hsub : IntKind.i64.wrap ((s.size : Int) - 1) = ((s.size - 1 : Nat) : Int) := by rw [IntWalk.i64_in _ (by omega)]; omega
  have hlt1 : s.size - 1 < s.size := by omega
  by_cases hd : s[s.size - 1] = 46
  rotate_left
  · have HD := Lib.hid hd
    have ht : ((s[s.size - 1].toNat : Int) == 46) = false := by
      rw [beq_eq_false_iff_ne]
      exact fun e => hd (UInt8.toNat_inj.1 (by have : (46 : UInt8).toNat = 46 := rfl; omega))
    have ht2 : ((s[s.size - 1].toNat : Int) != 46) = true := by rw [bne, ht]; rfl
    have E := Lib.hid (parE_none (s := s) (fun y hy e => by subst e; exact hd ((senS_ext (of_decide_eq_true hy)).2.2 hlt1)))
    clear hsz0 hd
    go_enter Tryz.func29, Tryz.ntmps29
    have n0 := nrr.cell enV_len (i := 0) (j := 0) rfl rfl
    have n1 := nrr.cell enV_len (i := 0) (j := 1) rfl rfl
    have n2 := nrr.cell enV_len (i := 0) (j := 2) rfl rfl
    have n3 := nrr.cell enV_len (i := 0) (j := 3) rfl rfl
    have n4 := nrr.cell enV_len (i := 0) (j := 4) rfl rfl
    have n5 := nrr.cell enV_len (i := 0) (j := 5) rfl rfl
    have n6 := nrr.cell enV_len (i := 0) (j := 6) rfl rfl
    simp only [Nat.zero_mul, Nat.zero_add] at n0 n1 n2 n3 n4 n5 n6
    have z0 := orr.cell enV_len (i := 0) (j := 0) rfl rfl
    have z1 := orr.cell enV_len (i := 0) (j := 1) rfl rfl
    have z2 := orr.cell enV_len (i := 0) (j := 2) rfl rfl
    have z3 := orr.cell enV_len (i := 0) (j := 3) rfl rfl
    have z4 := orr.cell enV_len (i := 0) (j := 4) rfl rfl
    have z5 := orr.cell enV_len (i := 0) (j := 5) rfl rfl
    have z6 := orr.cell enV_len (i := 0) (j := 6) rfl rfl
    simp only [Nat.zero_mul, Nat.zero_add] at z0 z1 z2 z3 z4 z5 z6
    have f0 := orr.frozen 0
    have f1 := orr.frozen 1
    have f2 := orr.frozen 2
    have f3 := orr.frozen 3
    have f4 := orr.frozen 4
    have f5 := orr.frozen 5
    have f6 := orr.frozen 6
    go_wp2
    exact bodyPost_ret (v := .tuple #[.agg #[.int .i64 0, .string ⟨#[]⟩, .string ⟨#[]⟩, .int .i64 0, .int .i64 0, .int .i64 0, .bool false], .bool false]) (by simp [results, Tryz.results29, go_sem, z0, z1, z2, z3, z4, z5, z6]) rfl ⟨by rw [E.out], by exact b0⟩
  have ht : ((s[s.size - 1].toNat : Int) == 46) = true := by rw [hd]; rfl
  have ht2 : ((s[s.size - 1].toNat : Int) != 46) = false := by rw [bne, ht]; rfl
  have HD := Lib.hid hd
  have hle1 : s.size - 1 ≤ s.size := by omega
  have hxz : (s.extract 0 (s.size - 1)).size ≤ 4194304 := by rw [ByteArray.size_extract]; omega
  have PE : Hid (parE s = if enOK (candE (cutS (s.extract 0 (s.size - 1)) 32)) = true ∧ senS (candE (cutS (s.extract 0 (s.size - 1)) 32)) = s then (candE (cutS (s.extract 0 (s.size - 1)) 32), true) else (⟨0, ⟨#[]⟩, ⟨#[]⟩, 0, 0, 0, false⟩, false)) := rfl
  have HZ0 : Hid (∀ x ∈ cutS (s.extract 0 (s.size - 1)) 32, x.size ≤ 1048576) := fun x hx => by have := cutS_size hx; rw [ByteArray.size_extract] at this; omega
  obtain ⟨ws, hws⟩ : ∃ ws, ws = cutS (s.extract 0 (s.size - 1)) 32 := ⟨_, rfl⟩
  have HCC := Lib.hid hc
  rw [← hws] at PE HZ0
  replace HCC := HCC.out
  rw [← hws] at HCC
  have HC := Lib.hid HCC
  clear hc HCC
  have HWS := Lib.hid hws
  have HZ := HZ0
  clear hws hd HZ0
  go_enter Tryz.func29, Tryz.ntmps29
  go_wp2_with fail
  refine (l1Split_any (s.extract 0 (s.size - 1)) 32 _ hxz).mono ?_
  rintro e w1 ⟨⟨B, q, d, rfl, ho⟩, b1⟩
  rw [← HWS.out] at ho
  have t1 := below_trans b0 b1
  have hs1 := b1.size
  replace orr := orr.below b1
  replace nrr := nrr.below b1
  have hl := ho.len
  have RD0 := Lib.hid (ho.rd stV_len)
  have hq1 : 0 < q := by
    have h9 := List.length_pos_iff.2 (cutS_ne (s.extract 0 (s.size - 1)) 32)
    rw [← HWS.out] at h9
    omega
  obtain ⟨bb, oo, p00, rfl, -, c00⟩ := RD0.out.st (i := 0) hq1
  have HBB := Lib.hid (show bb < w1.heap.size from lt_of_cell c00)
  clear c00
  clear b0 ho ht ht2 hxz hsub HWS HD
  go_upto_region 7 with fail
  have b3 := below_alloc (w := w1) (.cells #[.int .i64 0, .string ⟨#[]⟩, .string ⟨#[]⟩, .int .i64 0, .int .i64 0, .int .i64 0, .bool false] 27)
  have err : Own enV 7 (w1.alloc (.cells #[.int .i64 0, .string ⟨#[]⟩, .string ⟨#[]⟩, .int .i64 0, .int .i64 0, .int .i64 0, .bool false] 27)) w1.heap.size 27 (some ⟨w1.heap.size, 0, none⟩) 1 1 [⟨0, ⟨#[]⟩, ⟨#[]⟩, 0, 0, 0, false⟩] := ⟨rfl, rfl, .inr ⟨_, _, _, rfl, Nat.le_refl _, heap_new rfl, by omega, by simp [maxLen], rfl, rfl⟩⟩
  have HGo := Lib.hid (show w.heap.size < w1.heap.size by omega)
  have HGn := Lib.hid (show w.heap.size + 1 < w1.heap.size by omega)
  replace orr := orr.below b3
  replace nrr := nrr.below b3
  have RD := Lib.hid (RD0.out.below b3)
  have t3 := below_trans t1 b3
  generalize hw3 : w1.alloc (.cells #[.int .i64 0, .string ⟨#[]⟩, .string ⟨#[]⟩, .int .i64 0, .int .i64 0, .int .i64 0, .bool false] 27) = w3 at *
  generalize hg : w1.heap.size = g at *
  have hl' := Lib.hid hl
  clear hw3 b1 b3 hs1 t1 hsz0 hg RD0
  by_cases h4 : q = 4
  · subst h4
    obtain ⟨b', oo', p1, hb', hp1, cp1⟩ := RD.out.st (i := 1) (by omega)
    injection hb' with hb'
    injection hb' with hb1 hb2
    subst hb1 hb2
    have zp1 := HZ.out p1 (List.mem_of_getElem? hp1)
    have Xp1 := Lib.hid (wdI_at hp1)
    clear hp1
    by_cases e1 : p1 = (⟨#[109, 111, 118, 101, 100]⟩ : ByteArray)
    · have q1 := lt_t [109, 111, 118, 101, 100] (⟨#[109, 111, 118, 101, 100]⟩ : ByteArray) (by simp) e1
      obtain ⟨b', oo', p0, hb', hp0, cp0⟩ := RD.out.st (i := 0) (by omega)
      injection hb' with hb'
      injection hb' with hb1 hb2
      subst hb1 hb2
      have zp0 := HZ.out p0 (List.mem_of_getElem? hp0)
      have Xp0 := Lib.hid (wdI_at hp0)
      clear hp0
      rw [Nat.add_zero] at cp0
      obtain ⟨b', oo', p3, hb', hp3, cp3⟩ := RD.out.st (i := 3) (by omega)
      injection hb' with hb'
      injection hb' with hb1 hb2
      subst hb1 hb2
      have zp3 := HZ.out p3 (List.mem_of_getElem? hp3)
      have Xp3 := Lib.hid (wdI_at hp3)
      clear hp3
      have hx := Lib.hid ((candE_0 ⟨hl'.out, Xp1.out.trans e1⟩).trans (by rw [Xp0.out, Xp3.out]))
      clear e1
      have SM : Hid (∀ w2, Calls Tryz.prog 53 #[.string p0] w2 fun e w' => e = .returned (.string (smallS p0)) ∧ Below w2.heap.size w2 w') := fun w2 => l21Small_any p0 w2 zp0
      have zs := small_sz p0
      have hm1 : (smallS p0).size ≤ maxLen := by simp only [maxLen]; omega
      have hm2 : p3.size ≤ maxLen := by simp only [maxLen]; omega
      have PX : Hid (parE s = if enOK (⟨2, smallS p0, p3, 0, 0, 0, false⟩ : EN) = true ∧ senS (⟨2, smallS p0, p3, 0, 0, 0, false⟩ : EN) = s then ((⟨2, smallS p0, p3, 0, 0, 0, false⟩ : EN), true) else (⟨0, ⟨#[]⟩, ⟨#[]⟩, 0, 0, 0, false⟩, false)) := by have h9 := PE.out; rw [hx.out] at h9; exact h9
      go_upto_region 8 with fail
      go_region_law (first
        | (go_simp
           go_at_call 53
           (with_reducible refine (SM.out _).mono ?_)
           rintro e wa ⟨rfl, ba⟩
           have mp3 := cell_below ba cp3
           have errA := (by first | exact err.drew.below ba | exact err.below ba : Own enV 7 wa g 27 (some ⟨g, 0, none⟩) 1 1 [⟨0, ⟨#[]⟩, ⟨#[]⟩, 0, 0, 0, false⟩])
           have orrA := (by first | exact orr.drew.below ba | exact orr.below ba : Own enV 7 wa w.heap.size 27 (some ⟨w.heap.size, 0, none⟩) 1 1 [⟨0, ⟨#[]⟩, ⟨#[]⟩, 0, 0, 0, false⟩])
           have nrrA := (by first | exact nrr.drew.below ba | exact nrr.below ba : Own enV 7 wa (w.heap.size + 1) 27 (some ⟨w.heap.size + 1, 0, none⟩) 1 1 [⟨0, ⟨#[]⟩, ⟨#[]⟩, 0, 0, 0, false⟩])
           have tA := (by first | exact below_trans t3.drew ba | exact below_trans t3 ba : Below w.heap.size w wa)
           have y0 := errA.cell enV_len (i := 0) (j := 0) rfl rfl
           have y1 := errA.cell enV_len (i := 0) (j := 1) rfl rfl
           have y2 := errA.cell enV_len (i := 0) (j := 2) rfl rfl
           have y3 := errA.cell enV_len (i := 0) (j := 3) rfl rfl
           have y4 := errA.cell enV_len (i := 0) (j := 4) rfl rfl
           have y5 := errA.cell enV_len (i := 0) (j := 5) rfl rfl
           have y6 := errA.cell enV_len (i := 0) (j := 6) rfl rfl
           simp only [Nat.zero_mul, Nat.zero_add] at y0 y1 y2 y3 y4 y5 y6
           have f0 := errA.frozen 0
           have f1 := errA.frozen 1
           have f2 := errA.frozen 2
           have f3 := errA.frozen 3
           have f4 := errA.frozen 4
           have f5 := errA.frozen 5
           have f6 := errA.frozen 6))
      all_goals
        go_wp2_with fail
        have bY : Below g wa (putCells wa g 0 (enV (⟨2, smallS p0, p3, 0, 0, 0, false⟩ : EN))) := below_puts (enV (⟨2, smallS p0, p3, 0, 0, 0, false⟩ : EN)) 0 (Below.refl g wa) (Nat.le_refl _)
        have errY := (errA.puts enV_len 0 (⟨2, smallS p0, p3, 0, 0, 0, false⟩ : EN) (by omega)).1
        rw [Nat.zero_mul] at errY
        have orrY := orrA.put_below bY (fun k hk => by cases hk; exact HGo.out)
        have nrrY := nrrA.put_below bY (fun k hk => by cases hk; exact HGn.out)
        have tY : Below w.heap.size w (putCells wa g 0 (enV (⟨2, smallS p0, p3, 0, 0, 0, false⟩ : EN))) := below_puts (enV (⟨2, smallS p0, p3, 0, 0, 0, false⟩ : EN)) 0 tA (Nat.le_of_lt HGo.out)
        clear bY
        refine (l21One_any (⟨2, smallS p0, p3, 0, 0, 0, false⟩ : EN) _ hm1 hm2).mono ?_
        rintro e w5 ⟨rfl, b5⟩
        have errZ := errY.below b5
        have orrZ := orrY.below b5
        have nrrZ := nrrY.below b5
        have tZ := below_trans tY b5
        clear errY orrY nrrY tY b5
        cases hok : enOK (⟨2, smallS p0, p3, 0, 0, 0, false⟩ : EN)
        · have E := Lib.hid (PX.out.trans (if_neg (by rw [hok]; exact fun e => by cases e.1)))
          have n0 := nrrZ.cell enV_len (i := 0) (j := 0) rfl rfl
          have n1 := nrrZ.cell enV_len (i := 0) (j := 1) rfl rfl
          have n2 := nrrZ.cell enV_len (i := 0) (j := 2) rfl rfl
          have n3 := nrrZ.cell enV_len (i := 0) (j := 3) rfl rfl
          have n4 := nrrZ.cell enV_len (i := 0) (j := 4) rfl rfl
          have n5 := nrrZ.cell enV_len (i := 0) (j := 5) rfl rfl
          have n6 := nrrZ.cell enV_len (i := 0) (j := 6) rfl rfl
          simp only [Nat.zero_mul, Nat.zero_add] at n0 n1 n2 n3 n4 n5 n6
          have z0 := orrZ.cell enV_len (i := 0) (j := 0) rfl rfl
          have z1 := orrZ.cell enV_len (i := 0) (j := 1) rfl rfl
          have z2 := orrZ.cell enV_len (i := 0) (j := 2) rfl rfl
          have z3 := orrZ.cell enV_len (i := 0) (j := 3) rfl rfl
          have z4 := orrZ.cell enV_len (i := 0) (j := 4) rfl rfl
          have z5 := orrZ.cell enV_len (i := 0) (j := 5) rfl rfl
          have z6 := orrZ.cell enV_len (i := 0) (j := 6) rfl rfl
          simp only [Nat.zero_mul, Nat.zero_add] at z0 z1 z2 z3 z4 z5 z6
          have f0 := orrZ.frozen 0
          have f1 := orrZ.frozen 1
          have f2 := orrZ.frozen 2
          have f3 := orrZ.frozen 3
          have f4 := orrZ.frozen 4
          have f5 := orrZ.frozen 5
          have f6 := orrZ.frozen 6
          go_wp2
          exact bodyPost_ret (v := .tuple #[.agg #[.int .i64 0, .string ⟨#[]⟩, .string ⟨#[]⟩, .int .i64 0, .int .i64 0, .int .i64 0, .bool false], .bool false]) (by simp [results, Tryz.results29, go_sem, z0, z1, z2, z3, z4, z5, z6]) rfl ⟨by rw [E.out], by exact (below_setCell (below_setCell (below_setCell (below_setCell (below_setCell (below_setCell (below_setCell tZ _ _ _ (Nat.le_refl _)) _ _ _ (Nat.le_refl _)) _ _ _ (Nat.le_refl _)) _ _ _ (Nat.le_refl _)) _ _ _ (Nat.le_refl _)) _ _ _ (Nat.le_refl _)) _ _ _ (Nat.le_refl _))⟩
        · have HK := Lib.hid (of_decide_eq_true hok)
          have OK := Lib.hid hok
          have y0 := errZ.cell enV_len (i := 0) (j := 0) rfl rfl
          have y1 := errZ.cell enV_len (i := 0) (j := 1) rfl rfl
          have y2 := errZ.cell enV_len (i := 0) (j := 2) rfl rfl
          have y3 := errZ.cell enV_len (i := 0) (j := 3) rfl rfl
          have y4 := errZ.cell enV_len (i := 0) (j := 4) rfl rfl
          have y5 := errZ.cell enV_len (i := 0) (j := 5) rfl rfl
          have y6 := errZ.cell enV_len (i := 0) (j := 6) rfl rfl
          simp only [Nat.zero_mul, Nat.zero_add] at y0 y1 y2 y3 y4 y5 y6
          clear hok
          go_wp2_with fail
          refine (l21Text_any (⟨2, smallS p0, p3, 0, 0, 0, false⟩ : EN) _ HK.out).mono ?_
          rintro e w6 ⟨rfl, b6⟩
          replace errZ := errZ.below b6
          replace orrZ := orrZ.below b6
          replace nrrZ := nrrZ.below b6
          replace tZ := below_trans tZ b6
          clear y0 y1 y2 y3 y4 y5 y6 b6
          by_cases hse : senS (⟨2, smallS p0, p3, 0, 0, 0, false⟩ : EN) = s
          · have E := Lib.hid (PX.out.trans (if_pos ⟨OK.out, hse⟩))
            have hq1 := bytes_eq_t hse
            have hq2 := lt_tn hse
            clear hse
            have y0 := errZ.cell enV_len (i := 0) (j := 0) rfl rfl
            have y1 := errZ.cell enV_len (i := 0) (j := 1) rfl rfl
            have y2 := errZ.cell enV_len (i := 0) (j := 2) rfl rfl
            have y3 := errZ.cell enV_len (i := 0) (j := 3) rfl rfl
            have y4 := errZ.cell enV_len (i := 0) (j := 4) rfl rfl
            have y5 := errZ.cell enV_len (i := 0) (j := 5) rfl rfl
            have y6 := errZ.cell enV_len (i := 0) (j := 6) rfl rfl
            simp only [Nat.zero_mul, Nat.zero_add] at y0 y1 y2 y3 y4 y5 y6
            have z0 := orrZ.cell enV_len (i := 0) (j := 0) rfl rfl
            have z1 := orrZ.cell enV_len (i := 0) (j := 1) rfl rfl
            have z2 := orrZ.cell enV_len (i := 0) (j := 2) rfl rfl
            have z3 := orrZ.cell enV_len (i := 0) (j := 3) rfl rfl
            have z4 := orrZ.cell enV_len (i := 0) (j := 4) rfl rfl
            have z5 := orrZ.cell enV_len (i := 0) (j := 5) rfl rfl
            have z6 := orrZ.cell enV_len (i := 0) (j := 6) rfl rfl
            simp only [Nat.zero_mul, Nat.zero_add] at z0 z1 z2 z3 z4 z5 z6
            have f0 := orrZ.frozen 0
            have f1 := orrZ.frozen 1
            have f2 := orrZ.frozen 2
            have f3 := orrZ.frozen 3
            have f4 := orrZ.frozen 4
            have f5 := orrZ.frozen 5
            have f6 := orrZ.frozen 6
            go_wp2
            exact bodyPost_ret (v := .tuple #[.agg #[.int .i64 2, .string (smallS p0), .string p3, .int .i64 0, .int .i64 0, .int .i64 0, .bool false], .bool true]) (by simp [results, Tryz.results29, go_sem, z0, z1, z2, z3, z4, z5, z6]) rfl ⟨by rw [E.out], by exact (below_setCell (below_setCell (below_setCell (below_setCell (below_setCell (below_setCell (below_setCell tZ _ _ _ (Nat.le_refl _)) _ _ _ (Nat.le_refl _)) _ _ _ (Nat.le_refl _)) _ _ _ (Nat.le_refl _)) _ _ _ (Nat.le_refl _)) _ _ _ (Nat.le_refl _)) _ _ _ (Nat.le_refl _))⟩
          · have E := Lib.hid (PX.out.trans (if_neg (fun e => hse e.2)))
            have hq1 := bytes_eq_f hse
            have hq2 := lt_fn hse
            clear hse
            have n0 := nrrZ.cell enV_len (i := 0) (j := 0) rfl rfl
            have n1 := nrrZ.cell enV_len (i := 0) (j := 1) rfl rfl
            have n2 := nrrZ.cell enV_len (i := 0) (j := 2) rfl rfl
            have n3 := nrrZ.cell enV_len (i := 0) (j := 3) rfl rfl
            have n4 := nrrZ.cell enV_len (i := 0) (j := 4) rfl rfl
            have n5 := nrrZ.cell enV_len (i := 0) (j := 5) rfl rfl
            have n6 := nrrZ.cell enV_len (i := 0) (j := 6) rfl rfl
            simp only [Nat.zero_mul, Nat.zero_add] at n0 n1 n2 n3 n4 n5 n6
            have z0 := orrZ.cell enV_len (i := 0) (j := 0) rfl rfl
            have z1 := orrZ.cell enV_len (i := 0) (j := 1) rfl rfl
            have z2 := orrZ.cell enV_len (i := 0) (j := 2) rfl rfl
            have z3 := orrZ.cell enV_len (i := 0) (j := 3) rfl rfl
            have z4 := orrZ.cell enV_len (i := 0) (j := 4) rfl rfl
            have z5 := orrZ.cell enV_len (i := 0) (j := 5) rfl rfl
            have z6 := orrZ.cell enV_len (i := 0) (j := 6) rfl rfl
            simp only [Nat.zero_mul, Nat.zero_add] at z0 z1 z2 z3 z4 z5 z6
            have f0 := orrZ.frozen 0
            have f1 := orrZ.frozen 1
            have f2 := orrZ.frozen 2
            have f3 := orrZ.frozen 3
            have f4 := orrZ.frozen 4
            have f5 := orrZ.frozen 5
            have f6 := orrZ.frozen 6
            go_wp2
            exact bodyPost_ret (v := .tuple #[.agg #[.int .i64 0, .string ⟨#[]⟩, .string ⟨#[]⟩, .int .i64 0, .int .i64 0, .int .i64 0, .bool false], .bool false]) (by simp [results, Tryz.results29, go_sem, z0, z1, z2, z3, z4, z5, z6]) rfl ⟨by rw [E.out], by exact (below_setCell (below_setCell (below_setCell (below_setCell (below_setCell (below_setCell (below_setCell tZ _ _ _ (Nat.le_refl _)) _ _ _ (Nat.le_refl _)) _ _ _ (Nat.le_refl _)) _ _ _ (Nat.le_refl _)) _ _ _ (Nat.le_refl _)) _ _ _ (Nat.le_refl _)) _ _ _ (Nat.le_refl _))⟩
    · have q1 := lt_f [109, 111, 118, 101, 100] (⟨#[109, 111, 118, 101, 100]⟩ : ByteArray) (by simp) e1
      have hx := Lib.hid (candE_6 (ws := ws) (fun h => e1 (Xp1.out.symm.trans h.2)) (fun h => by have := h.1; have := hl'.out; omega) (fun h => by have := h.1; have := hl'.out; omega) (fun h => by have := h.1; have := hl'.out; omega) (fun h => by have := h.1; have := hl'.out; omega) (fun h => by have := h.1; have := hl'.out; omega))
      clear e1
      have hm1 : (⟨#[]⟩ : ByteArray).size ≤ maxLen := Nat.zero_le _
      have hm2 : (⟨#[]⟩ : ByteArray).size ≤ maxLen := Nat.zero_le _
      have PX : Hid (parE s = if enOK (⟨0, ⟨#[]⟩, ⟨#[]⟩, 0, 0, 0, false⟩ : EN) = true ∧ senS (⟨0, ⟨#[]⟩, ⟨#[]⟩, 0, 0, 0, false⟩ : EN) = s then ((⟨0, ⟨#[]⟩, ⟨#[]⟩, 0, 0, 0, false⟩ : EN), true) else (⟨0, ⟨#[]⟩, ⟨#[]⟩, 0, 0, 0, false⟩, false)) := by have h9 := PE.out; rw [hx.out] at h9; exact h9
      have errY := err
      have orrY := orr
      have nrrY := nrr
      have tY := t3
      have y0 := err.cell enV_len (i := 0) (j := 0) rfl rfl
      have y1 := err.cell enV_len (i := 0) (j := 1) rfl rfl
      have y2 := err.cell enV_len (i := 0) (j := 2) rfl rfl
      have y3 := err.cell enV_len (i := 0) (j := 3) rfl rfl
      have y4 := err.cell enV_len (i := 0) (j := 4) rfl rfl
      have y5 := err.cell enV_len (i := 0) (j := 5) rfl rfl
      have y6 := err.cell enV_len (i := 0) (j := 6) rfl rfl
      simp only [Nat.zero_mul, Nat.zero_add] at y0 y1 y2 y3 y4 y5 y6
      go_wp2_with fail
      refine (l21One_any (⟨0, ⟨#[]⟩, ⟨#[]⟩, 0, 0, 0, false⟩ : EN) _ hm1 hm2).mono ?_
      rintro e w5 ⟨rfl, b5⟩
      have errZ := errY.below b5
      have orrZ := orrY.below b5
      have nrrZ := nrrY.below b5
      have tZ := below_trans tY b5
      clear errY orrY nrrY tY b5
      cases hok : enOK (⟨0, ⟨#[]⟩, ⟨#[]⟩, 0, 0, 0, false⟩ : EN)
      · have E := Lib.hid (PX.out.trans (if_neg (by rw [hok]; exact fun e => by cases e.1)))
        have n0 := nrrZ.cell enV_len (i := 0) (j := 0) rfl rfl
        have n1 := nrrZ.cell enV_len (i := 0) (j := 1) rfl rfl
        have n2 := nrrZ.cell enV_len (i := 0) (j := 2) rfl rfl
        have n3 := nrrZ.cell enV_len (i := 0) (j := 3) rfl rfl
        have n4 := nrrZ.cell enV_len (i := 0) (j := 4) rfl rfl
        have n5 := nrrZ.cell enV_len (i := 0) (j := 5) rfl rfl
        have n6 := nrrZ.cell enV_len (i := 0) (j := 6) rfl rfl
        simp only [Nat.zero_mul, Nat.zero_add] at n0 n1 n2 n3 n4 n5 n6
        have z0 := orrZ.cell enV_len (i := 0) (j := 0) rfl rfl
        have z1 := orrZ.cell enV_len (i := 0) (j := 1) rfl rfl
        have z2 := orrZ.cell enV_len (i := 0) (j := 2) rfl rfl
        have z3 := orrZ.cell enV_len (i := 0) (j := 3) rfl rfl
        have z4 := orrZ.cell enV_len (i := 0) (j := 4) rfl rfl
        have z5 := orrZ.cell enV_len (i := 0) (j := 5) rfl rfl
        have z6 := orrZ.cell enV_len (i := 0) (j := 6) rfl rfl
        simp only [Nat.zero_mul, Nat.zero_add] at z0 z1 z2 z3 z4 z5 z6
        have f0 := orrZ.frozen 0
        have f1 := orrZ.frozen 1
        have f2 := orrZ.frozen 2
        have f3 := orrZ.frozen 3
        have f4 := orrZ.frozen 4
        have f5 := orrZ.frozen 5
        have f6 := orrZ.frozen 6
        go_wp2
        exact bodyPost_ret (v := .tuple #[.agg #[.int .i64 0, .string ⟨#[]⟩, .string ⟨#[]⟩, .int .i64 0, .int .i64 0, .int .i64 0, .bool false], .bool false]) (by simp [results, Tryz.results29, go_sem, z0, z1, z2, z3, z4, z5, z6]) rfl ⟨by rw [E.out], by exact (below_setCell (below_setCell (below_setCell (below_setCell (below_setCell (below_setCell (below_setCell tZ _ _ _ (Nat.le_refl _)) _ _ _ (Nat.le_refl _)) _ _ _ (Nat.le_refl _)) _ _ _ (Nat.le_refl _)) _ _ _ (Nat.le_refl _)) _ _ _ (Nat.le_refl _)) _ _ _ (Nat.le_refl _))⟩
      · have HK := Lib.hid (of_decide_eq_true hok)
        have OK := Lib.hid hok
        have y0 := errZ.cell enV_len (i := 0) (j := 0) rfl rfl
        have y1 := errZ.cell enV_len (i := 0) (j := 1) rfl rfl
        have y2 := errZ.cell enV_len (i := 0) (j := 2) rfl rfl
        have y3 := errZ.cell enV_len (i := 0) (j := 3) rfl rfl
        have y4 := errZ.cell enV_len (i := 0) (j := 4) rfl rfl
        have y5 := errZ.cell enV_len (i := 0) (j := 5) rfl rfl
        have y6 := errZ.cell enV_len (i := 0) (j := 6) rfl rfl
        simp only [Nat.zero_mul, Nat.zero_add] at y0 y1 y2 y3 y4 y5 y6
        clear hok
        go_wp2_with fail
        refine (l21Text_any (⟨0, ⟨#[]⟩, ⟨#[]⟩, 0, 0, 0, false⟩ : EN) _ HK.out).mono ?_
        rintro e w6 ⟨rfl, b6⟩
        replace errZ := errZ.below b6
        replace orrZ := orrZ.below b6
        replace nrrZ := nrrZ.below b6
        replace tZ := below_trans tZ b6
        clear y0 y1 y2 y3 y4 y5 y6 b6
        by_cases hse : senS (⟨0, ⟨#[]⟩, ⟨#[]⟩, 0, 0, 0, false⟩ : EN) = s
        · have E := Lib.hid (PX.out.trans (if_pos ⟨OK.out, hse⟩))
          have hq1 := bytes_eq_t hse
          have hq2 := lt_tn hse
          clear hse
          have y0 := errZ.cell enV_len (i := 0) (j := 0) rfl rfl
          have y1 := errZ.cell enV_len (i := 0) (j := 1) rfl rfl
          have y2 := errZ.cell enV_len (i := 0) (j := 2) rfl rfl
          have y3 := errZ.cell enV_len (i := 0) (j := 3) rfl rfl
          have y4 := errZ.cell enV_len (i := 0) (j := 4) rfl rfl
          have y5 := errZ.cell enV_len (i := 0) (j := 5) rfl rfl
          have y6 := errZ.cell enV_len (i := 0) (j := 6) rfl rfl
          simp only [Nat.zero_mul, Nat.zero_add] at y0 y1 y2 y3 y4 y5 y6
          have z0 := orrZ.cell enV_len (i := 0) (j := 0) rfl rfl
          have z1 := orrZ.cell enV_len (i := 0) (j := 1) rfl rfl
          have z2 := orrZ.cell enV_len (i := 0) (j := 2) rfl rfl
          have z3 := orrZ.cell enV_len (i := 0) (j := 3) rfl rfl
          have z4 := orrZ.cell enV_len (i := 0) (j := 4) rfl rfl
          have z5 := orrZ.cell enV_len (i := 0) (j := 5) rfl rfl
          have z6 := orrZ.cell enV_len (i := 0) (j := 6) rfl rfl
          simp only [Nat.zero_mul, Nat.zero_add] at z0 z1 z2 z3 z4 z5 z6
          have f0 := orrZ.frozen 0
          have f1 := orrZ.frozen 1
          have f2 := orrZ.frozen 2
          have f3 := orrZ.frozen 3
          have f4 := orrZ.frozen 4
          have f5 := orrZ.frozen 5
          have f6 := orrZ.frozen 6
          go_wp2
          exact bodyPost_ret (v := .tuple #[.agg #[.int .i64 0, .string ⟨#[]⟩, .string ⟨#[]⟩, .int .i64 0, .int .i64 0, .int .i64 0, .bool false], .bool true]) (by simp [results, Tryz.results29, go_sem, z0, z1, z2, z3, z4, z5, z6]) rfl ⟨by rw [E.out], by exact (below_setCell (below_setCell (below_setCell (below_setCell (below_setCell (below_setCell (below_setCell tZ _ _ _ (Nat.le_refl _)) _ _ _ (Nat.le_refl _)) _ _ _ (Nat.le_refl _)) _ _ _ (Nat.le_refl _)) _ _ _ (Nat.le_refl _)) _ _ _ (Nat.le_refl _)) _ _ _ (Nat.le_refl _))⟩
        · have E := Lib.hid (PX.out.trans (if_neg (fun e => hse e.2)))
          have hq1 := bytes_eq_f hse
          have hq2 := lt_fn hse
          clear hse
          have n0 := nrrZ.cell enV_len (i := 0) (j := 0) rfl rfl
          have n1 := nrrZ.cell enV_len (i := 0) (j := 1) rfl rfl
          have n2 := nrrZ.cell enV_len (i := 0) (j := 2) rfl rfl
          have n3 := nrrZ.cell enV_len (i := 0) (j := 3) rfl rfl
          have n4 := nrrZ.cell enV_len (i := 0) (j := 4) rfl rfl
          have n5 := nrrZ.cell enV_len (i := 0) (j := 5) rfl rfl
          have n6 := nrrZ.cell enV_len (i := 0) (j := 6) rfl rfl
          simp only [Nat.zero_mul, Nat.zero_add] at n0 n1 n2 n3 n4 n5 n6
          have z0 := orrZ.cell enV_len (i := 0) (j := 0) rfl rfl
          have z1 := orrZ.cell enV_len (i := 0) (j := 1) rfl rfl
          have z2 := orrZ.cell enV_len (i := 0) (j := 2) rfl rfl
          have z3 := orrZ.cell enV_len (i := 0) (j := 3) rfl rfl
          have z4 := orrZ.cell enV_len (i := 0) (j := 4) rfl rfl
          have z5 := orrZ.cell enV_len (i := 0) (j := 5) rfl rfl
          have z6 := orrZ.cell enV_len (i := 0) (j := 6) rfl rfl
          simp only [Nat.zero_mul, Nat.zero_add] at z0 z1 z2 z3 z4 z5 z6
          have f0 := orrZ.frozen 0
          have f1 := orrZ.frozen 1
          have f2 := orrZ.frozen 2
          have f3 := orrZ.frozen 3
          have f4 := orrZ.frozen 4
          have f5 := orrZ.frozen 5
          have f6 := orrZ.frozen 6
          go_wp2
          exact bodyPost_ret (v := .tuple #[.agg #[.int .i64 0, .string ⟨#[]⟩, .string ⟨#[]⟩, .int .i64 0, .int .i64 0, .int .i64 0, .bool false], .bool false]) (by simp [results, Tryz.results29, go_sem, z0, z1, z2, z3, z4, z5, z6]) rfl ⟨by rw [E.out], by exact (below_setCell (below_setCell (below_setCell (below_setCell (below_setCell (below_setCell (below_setCell tZ _ _ _ (Nat.le_refl _)) _ _ _ (Nat.le_refl _)) _ _ _ (Nat.le_refl _)) _ _ _ (Nat.le_refl _)) _ _ _ (Nat.le_refl _)) _ _ _ (Nat.le_refl _)) _ _ _ (Nat.le_refl _))⟩
  by_cases h6 : q = 6
  · subst h6
    obtain ⟨b', oo', p1, hb', hp1, cp1⟩ := RD.out.st (i := 1) (by omega)
    injection hb' with hb'
    injection hb' with hb1 hb2
    subst hb1 hb2
    have zp1 := HZ.out p1 (List.mem_of_getElem? hp1)
    have Xp1 := Lib.hid (wdI_at hp1)
    clear hp1
    obtain ⟨b', oo', p3, hb', hp3, cp3⟩ := RD.out.st (i := 3) (by omega)
    injection hb' with hb'
    injection hb' with hb1 hb2
    subst hb1 hb2
    have zp3 := HZ.out p3 (List.mem_of_getElem? hp3)
    have Xp3 := Lib.hid (wdI_at hp3)
    clear hp3
    by_cases e1 : p1 = (⟨#[115, 101, 99, 111, 110, 100, 101, 100]⟩ : ByteArray)
    · have q1 := lt_t [115, 101, 99, 111, 110, 100, 101, 100] (⟨#[115, 101, 99, 111, 110, 100, 101, 100]⟩ : ByteArray) (by simp) e1
      obtain ⟨b', oo', p0, hb', hp0, cp0⟩ := RD.out.st (i := 0) (by omega)
      injection hb' with hb'
      injection hb' with hb1 hb2
      subst hb1 hb2
      have zp0 := HZ.out p0 (List.mem_of_getElem? hp0)
      have Xp0 := Lib.hid (wdI_at hp0)
      clear hp0
      rw [Nat.add_zero] at cp0
      obtain ⟨b', oo', p5, hb', hp5, cp5⟩ := RD.out.st (i := 5) (by omega)
      injection hb' with hb'
      injection hb' with hb1 hb2
      subst hb1 hb2
      have zp5 := HZ.out p5 (List.mem_of_getElem? hp5)
      have Xp5 := Lib.hid (wdI_at hp5)
      clear hp5
      have hx := Lib.hid ((candE_1 (fun h => by have := h.1; have := hl'.out; omega) ⟨hl'.out, Xp1.out.trans e1⟩).trans (by rw [Xp0.out, Xp5.out]))
      clear e1
      have SM : Hid (∀ w2, Calls Tryz.prog 53 #[.string p0] w2 fun e w' => e = .returned (.string (smallS p0)) ∧ Below w2.heap.size w2 w') := fun w2 => l21Small_any p0 w2 zp0
      have zs := small_sz p0
      have hm1 : (smallS p0).size ≤ maxLen := by simp only [maxLen]; omega
      have hm2 : p5.size ≤ maxLen := by simp only [maxLen]; omega
      have PX : Hid (parE s = if enOK (⟨3, smallS p0, p5, 0, 0, 0, false⟩ : EN) = true ∧ senS (⟨3, smallS p0, p5, 0, 0, 0, false⟩ : EN) = s then ((⟨3, smallS p0, p5, 0, 0, 0, false⟩ : EN), true) else (⟨0, ⟨#[]⟩, ⟨#[]⟩, 0, 0, 0, false⟩, false)) := by have h9 := PE.out; rw [hx.out] at h9; exact h9
      go_upto_region 10 with fail
      go_region_law (first
        | (go_simp
           go_at_call 53
           (with_reducible refine (SM.out _).mono ?_)
           rintro e wa ⟨rfl, ba⟩
           have mp5 := cell_below ba cp5
           have errA := (by first | exact err.drew.below ba | exact err.below ba : Own enV 7 wa g 27 (some ⟨g, 0, none⟩) 1 1 [⟨0, ⟨#[]⟩, ⟨#[]⟩, 0, 0, 0, false⟩])
           have orrA := (by first | exact orr.drew.below ba | exact orr.below ba : Own enV 7 wa w.heap.size 27 (some ⟨w.heap.size, 0, none⟩) 1 1 [⟨0, ⟨#[]⟩, ⟨#[]⟩, 0, 0, 0, false⟩])
           have nrrA := (by first | exact nrr.drew.below ba | exact nrr.below ba : Own enV 7 wa (w.heap.size + 1) 27 (some ⟨w.heap.size + 1, 0, none⟩) 1 1 [⟨0, ⟨#[]⟩, ⟨#[]⟩, 0, 0, 0, false⟩])
           have tA := (by first | exact below_trans t3.drew ba | exact below_trans t3 ba : Below w.heap.size w wa)
           have y0 := errA.cell enV_len (i := 0) (j := 0) rfl rfl
           have y1 := errA.cell enV_len (i := 0) (j := 1) rfl rfl
           have y2 := errA.cell enV_len (i := 0) (j := 2) rfl rfl
           have y3 := errA.cell enV_len (i := 0) (j := 3) rfl rfl
           have y4 := errA.cell enV_len (i := 0) (j := 4) rfl rfl
           have y5 := errA.cell enV_len (i := 0) (j := 5) rfl rfl
           have y6 := errA.cell enV_len (i := 0) (j := 6) rfl rfl
           simp only [Nat.zero_mul, Nat.zero_add] at y0 y1 y2 y3 y4 y5 y6
           have f0 := errA.frozen 0
           have f1 := errA.frozen 1
           have f2 := errA.frozen 2
           have f3 := errA.frozen 3
           have f4 := errA.frozen 4
           have f5 := errA.frozen 5
           have f6 := errA.frozen 6))
      all_goals
        go_wp2_with fail
        have bY : Below g wa (putCells wa g 0 (enV (⟨3, smallS p0, p5, 0, 0, 0, false⟩ : EN))) := below_puts (enV (⟨3, smallS p0, p5, 0, 0, 0, false⟩ : EN)) 0 (Below.refl g wa) (Nat.le_refl _)
        have errY := (errA.puts enV_len 0 (⟨3, smallS p0, p5, 0, 0, 0, false⟩ : EN) (by omega)).1
        rw [Nat.zero_mul] at errY
        have orrY := orrA.put_below bY (fun k hk => by cases hk; exact HGo.out)
        have nrrY := nrrA.put_below bY (fun k hk => by cases hk; exact HGn.out)
        have tY : Below w.heap.size w (putCells wa g 0 (enV (⟨3, smallS p0, p5, 0, 0, 0, false⟩ : EN))) := below_puts (enV (⟨3, smallS p0, p5, 0, 0, 0, false⟩ : EN)) 0 tA (Nat.le_of_lt HGo.out)
        clear bY
        refine (l21One_any (⟨3, smallS p0, p5, 0, 0, 0, false⟩ : EN) _ hm1 hm2).mono ?_
        rintro e w5 ⟨rfl, b5⟩
        have errZ := errY.below b5
        have orrZ := orrY.below b5
        have nrrZ := nrrY.below b5
        have tZ := below_trans tY b5
        clear errY orrY nrrY tY b5
        cases hok : enOK (⟨3, smallS p0, p5, 0, 0, 0, false⟩ : EN)
        · have E := Lib.hid (PX.out.trans (if_neg (by rw [hok]; exact fun e => by cases e.1)))
          have n0 := nrrZ.cell enV_len (i := 0) (j := 0) rfl rfl
          have n1 := nrrZ.cell enV_len (i := 0) (j := 1) rfl rfl
          have n2 := nrrZ.cell enV_len (i := 0) (j := 2) rfl rfl
          have n3 := nrrZ.cell enV_len (i := 0) (j := 3) rfl rfl
          have n4 := nrrZ.cell enV_len (i := 0) (j := 4) rfl rfl
          have n5 := nrrZ.cell enV_len (i := 0) (j := 5) rfl rfl
          have n6 := nrrZ.cell enV_len (i := 0) (j := 6) rfl rfl
          simp only [Nat.zero_mul, Nat.zero_add] at n0 n1 n2 n3 n4 n5 n6
          have z0 := orrZ.cell enV_len (i := 0) (j := 0) rfl rfl
          have z1 := orrZ.cell enV_len (i := 0) (j := 1) rfl rfl
          have z2 := orrZ.cell enV_len (i := 0) (j := 2) rfl rfl
          have z3 := orrZ.cell enV_len (i := 0) (j := 3) rfl rfl
          have z4 := orrZ.cell enV_len (i := 0) (j := 4) rfl rfl
          have z5 := orrZ.cell enV_len (i := 0) (j := 5) rfl rfl
          have z6 := orrZ.cell enV_len (i := 0) (j := 6) rfl rfl
          simp only [Nat.zero_mul, Nat.zero_add] at z0 z1 z2 z3 z4 z5 z6
          have f0 := orrZ.frozen 0
          have f1 := orrZ.frozen 1
          have f2 := orrZ.frozen 2
          have f3 := orrZ.frozen 3
          have f4 := orrZ.frozen 4
          have f5 := orrZ.frozen 5
          have f6 := orrZ.frozen 6
          go_wp2
          exact bodyPost_ret (v := .tuple #[.agg #[.int .i64 0, .string ⟨#[]⟩, .string ⟨#[]⟩, .int .i64 0, .int .i64 0, .int .i64 0, .bool false], .bool false]) (by simp [results, Tryz.results29, go_sem, z0, z1, z2, z3, z4, z5, z6]) rfl ⟨by rw [E.out], by exact (below_setCell (below_setCell (below_setCell (below_setCell (below_setCell (below_setCell (below_setCell tZ _ _ _ (Nat.le_refl _)) _ _ _ (Nat.le_refl _)) _ _ _ (Nat.le_refl _)) _ _ _ (Nat.le_refl _)) _ _ _ (Nat.le_refl _)) _ _ _ (Nat.le_refl _)) _ _ _ (Nat.le_refl _))⟩
        · have HK := Lib.hid (of_decide_eq_true hok)
          have OK := Lib.hid hok
          have y0 := errZ.cell enV_len (i := 0) (j := 0) rfl rfl
          have y1 := errZ.cell enV_len (i := 0) (j := 1) rfl rfl
          have y2 := errZ.cell enV_len (i := 0) (j := 2) rfl rfl
          have y3 := errZ.cell enV_len (i := 0) (j := 3) rfl rfl
          have y4 := errZ.cell enV_len (i := 0) (j := 4) rfl rfl
          have y5 := errZ.cell enV_len (i := 0) (j := 5) rfl rfl
          have y6 := errZ.cell enV_len (i := 0) (j := 6) rfl rfl
          simp only [Nat.zero_mul, Nat.zero_add] at y0 y1 y2 y3 y4 y5 y6
          clear hok
          go_wp2_with fail
          refine (l21Text_any (⟨3, smallS p0, p5, 0, 0, 0, false⟩ : EN) _ HK.out).mono ?_
          rintro e w6 ⟨rfl, b6⟩
          replace errZ := errZ.below b6
          replace orrZ := orrZ.below b6
          replace nrrZ := nrrZ.below b6
          replace tZ := below_trans tZ b6
          clear y0 y1 y2 y3 y4 y5 y6 b6
          by_cases hse : senS (⟨3, smallS p0, p5, 0, 0, 0, false⟩ : EN) = s
          · have E := Lib.hid (PX.out.trans (if_pos ⟨OK.out, hse⟩))
            have hq1 := bytes_eq_t hse
            have hq2 := lt_tn hse
            clear hse
            have y0 := errZ.cell enV_len (i := 0) (j := 0) rfl rfl
            have y1 := errZ.cell enV_len (i := 0) (j := 1) rfl rfl
            have y2 := errZ.cell enV_len (i := 0) (j := 2) rfl rfl
            have y3 := errZ.cell enV_len (i := 0) (j := 3) rfl rfl
            have y4 := errZ.cell enV_len (i := 0) (j := 4) rfl rfl
            have y5 := errZ.cell enV_len (i := 0) (j := 5) rfl rfl
            have y6 := errZ.cell enV_len (i := 0) (j := 6) rfl rfl
            simp only [Nat.zero_mul, Nat.zero_add] at y0 y1 y2 y3 y4 y5 y6
            have z0 := orrZ.cell enV_len (i := 0) (j := 0) rfl rfl
            have z1 := orrZ.cell enV_len (i := 0) (j := 1) rfl rfl
            have z2 := orrZ.cell enV_len (i := 0) (j := 2) rfl rfl
            have z3 := orrZ.cell enV_len (i := 0) (j := 3) rfl rfl
            have z4 := orrZ.cell enV_len (i := 0) (j := 4) rfl rfl
            have z5 := orrZ.cell enV_len (i := 0) (j := 5) rfl rfl
            have z6 := orrZ.cell enV_len (i := 0) (j := 6) rfl rfl
            simp only [Nat.zero_mul, Nat.zero_add] at z0 z1 z2 z3 z4 z5 z6
            have f0 := orrZ.frozen 0
            have f1 := orrZ.frozen 1
            have f2 := orrZ.frozen 2
            have f3 := orrZ.frozen 3
            have f4 := orrZ.frozen 4
            have f5 := orrZ.frozen 5
            have f6 := orrZ.frozen 6
            go_wp2
            exact bodyPost_ret (v := .tuple #[.agg #[.int .i64 3, .string (smallS p0), .string p5, .int .i64 0, .int .i64 0, .int .i64 0, .bool false], .bool true]) (by simp [results, Tryz.results29, go_sem, z0, z1, z2, z3, z4, z5, z6]) rfl ⟨by rw [E.out], by exact (below_setCell (below_setCell (below_setCell (below_setCell (below_setCell (below_setCell (below_setCell tZ _ _ _ (Nat.le_refl _)) _ _ _ (Nat.le_refl _)) _ _ _ (Nat.le_refl _)) _ _ _ (Nat.le_refl _)) _ _ _ (Nat.le_refl _)) _ _ _ (Nat.le_refl _)) _ _ _ (Nat.le_refl _))⟩
          · have E := Lib.hid (PX.out.trans (if_neg (fun e => hse e.2)))
            have hq1 := bytes_eq_f hse
            have hq2 := lt_fn hse
            clear hse
            have n0 := nrrZ.cell enV_len (i := 0) (j := 0) rfl rfl
            have n1 := nrrZ.cell enV_len (i := 0) (j := 1) rfl rfl
            have n2 := nrrZ.cell enV_len (i := 0) (j := 2) rfl rfl
            have n3 := nrrZ.cell enV_len (i := 0) (j := 3) rfl rfl
            have n4 := nrrZ.cell enV_len (i := 0) (j := 4) rfl rfl
            have n5 := nrrZ.cell enV_len (i := 0) (j := 5) rfl rfl
            have n6 := nrrZ.cell enV_len (i := 0) (j := 6) rfl rfl
            simp only [Nat.zero_mul, Nat.zero_add] at n0 n1 n2 n3 n4 n5 n6
            have z0 := orrZ.cell enV_len (i := 0) (j := 0) rfl rfl
            have z1 := orrZ.cell enV_len (i := 0) (j := 1) rfl rfl
            have z2 := orrZ.cell enV_len (i := 0) (j := 2) rfl rfl
            have z3 := orrZ.cell enV_len (i := 0) (j := 3) rfl rfl
            have z4 := orrZ.cell enV_len (i := 0) (j := 4) rfl rfl
            have z5 := orrZ.cell enV_len (i := 0) (j := 5) rfl rfl
            have z6 := orrZ.cell enV_len (i := 0) (j := 6) rfl rfl
            simp only [Nat.zero_mul, Nat.zero_add] at z0 z1 z2 z3 z4 z5 z6
            have f0 := orrZ.frozen 0
            have f1 := orrZ.frozen 1
            have f2 := orrZ.frozen 2
            have f3 := orrZ.frozen 3
            have f4 := orrZ.frozen 4
            have f5 := orrZ.frozen 5
            have f6 := orrZ.frozen 6
            go_wp2
            exact bodyPost_ret (v := .tuple #[.agg #[.int .i64 0, .string ⟨#[]⟩, .string ⟨#[]⟩, .int .i64 0, .int .i64 0, .int .i64 0, .bool false], .bool false]) (by simp [results, Tryz.results29, go_sem, z0, z1, z2, z3, z4, z5, z6]) rfl ⟨by rw [E.out], by exact (below_setCell (below_setCell (below_setCell (below_setCell (below_setCell (below_setCell (below_setCell tZ _ _ _ (Nat.le_refl _)) _ _ _ (Nat.le_refl _)) _ _ _ (Nat.le_refl _)) _ _ _ (Nat.le_refl _)) _ _ _ (Nat.le_refl _)) _ _ _ (Nat.le_refl _)) _ _ _ (Nat.le_refl _))⟩
    have q1 := lt_f [115, 101, 99, 111, 110, 100, 101, 100] (⟨#[115, 101, 99, 111, 110, 100, 101, 100]⟩ : ByteArray) (by simp) e1
    obtain ⟨b', oo', p2, hb', hp2, cp2⟩ := RD.out.st (i := 2) (by omega)
    injection hb' with hb'
    injection hb' with hb1 hb2
    subst hb1 hb2
    have zp2 := HZ.out p2 (List.mem_of_getElem? hp2)
    have Xp2 := Lib.hid (wdI_at hp2)
    clear hp2
    by_cases e3 : p3 = (⟨#[111, 112, 101, 110, 101, 100]⟩ : ByteArray)
    · have q3 := lt_t [111, 112, 101, 110, 101, 100] (⟨#[111, 112, 101, 110, 101, 100]⟩ : ByteArray) (by simp) e3
      have hx := Lib.hid ((candE_2 (fun h => by have := h.1; have := hl'.out; omega) (fun h => e1 (Xp1.out.symm.trans h.2)) ⟨hl'.out, Xp3.out.trans e3⟩).trans (by rw [Xp2.out]))
      clear e1 e3
      have SM : Hid (∀ w2, Calls Tryz.prog 53 #[.string p2] w2 fun e w' => e = .returned (.string (smallS p2)) ∧ Below w2.heap.size w2 w') := fun w2 => l21Small_any p2 w2 zp2
      have zs := small_sz p2
      have hm1 : (smallS p2).size ≤ maxLen := by simp only [maxLen]; omega
      have hm2 : (⟨#[]⟩ : ByteArray).size ≤ maxLen := Nat.zero_le _
      have PX : Hid (parE s = if enOK (⟨1, smallS p2, ⟨#[]⟩, 0, 0, 0, false⟩ : EN) = true ∧ senS (⟨1, smallS p2, ⟨#[]⟩, 0, 0, 0, false⟩ : EN) = s then ((⟨1, smallS p2, ⟨#[]⟩, 0, 0, 0, false⟩ : EN), true) else (⟨0, ⟨#[]⟩, ⟨#[]⟩, 0, 0, 0, false⟩, false)) := by have h9 := PE.out; rw [hx.out] at h9; exact h9
      go_wp2_with fail
      refine (SM.out _).mono ?_
      rintro e wa ⟨rfl, ba⟩
      have errA := (by first | exact err.drew.below ba | exact err.below ba : Own enV 7 wa g 27 (some ⟨g, 0, none⟩) 1 1 [⟨0, ⟨#[]⟩, ⟨#[]⟩, 0, 0, 0, false⟩])
      have orrA := (by first | exact orr.drew.below ba | exact orr.below ba : Own enV 7 wa w.heap.size 27 (some ⟨w.heap.size, 0, none⟩) 1 1 [⟨0, ⟨#[]⟩, ⟨#[]⟩, 0, 0, 0, false⟩])
      have nrrA := (by first | exact nrr.drew.below ba | exact nrr.below ba : Own enV 7 wa (w.heap.size + 1) 27 (some ⟨w.heap.size + 1, 0, none⟩) 1 1 [⟨0, ⟨#[]⟩, ⟨#[]⟩, 0, 0, 0, false⟩])
      have tA := (by first | exact below_trans t3.drew ba | exact below_trans t3 ba : Below w.heap.size w wa)
      have y0 := errA.cell enV_len (i := 0) (j := 0) rfl rfl
      have y1 := errA.cell enV_len (i := 0) (j := 1) rfl rfl
      have y2 := errA.cell enV_len (i := 0) (j := 2) rfl rfl
      have y3 := errA.cell enV_len (i := 0) (j := 3) rfl rfl
      have y4 := errA.cell enV_len (i := 0) (j := 4) rfl rfl
      have y5 := errA.cell enV_len (i := 0) (j := 5) rfl rfl
      have y6 := errA.cell enV_len (i := 0) (j := 6) rfl rfl
      simp only [Nat.zero_mul, Nat.zero_add] at y0 y1 y2 y3 y4 y5 y6
      have f0 := errA.frozen 0
      have f1 := errA.frozen 1
      have f2 := errA.frozen 2
      have f3 := errA.frozen 3
      have f4 := errA.frozen 4
      have f5 := errA.frozen 5
      have f6 := errA.frozen 6
      go_wp2_with fail
      have bY : Below g wa (putCells wa g 0 (enV (⟨1, smallS p2, ⟨#[]⟩, 0, 0, 0, false⟩ : EN))) := below_puts (enV (⟨1, smallS p2, ⟨#[]⟩, 0, 0, 0, false⟩ : EN)) 0 (Below.refl g wa) (Nat.le_refl _)
      have errY := (errA.puts enV_len 0 (⟨1, smallS p2, ⟨#[]⟩, 0, 0, 0, false⟩ : EN) (by omega)).1
      rw [Nat.zero_mul] at errY
      have orrY := orrA.put_below bY (fun k hk => by cases hk; exact HGo.out)
      have nrrY := nrrA.put_below bY (fun k hk => by cases hk; exact HGn.out)
      have tY : Below w.heap.size w (putCells wa g 0 (enV (⟨1, smallS p2, ⟨#[]⟩, 0, 0, 0, false⟩ : EN))) := below_puts (enV (⟨1, smallS p2, ⟨#[]⟩, 0, 0, 0, false⟩ : EN)) 0 tA (Nat.le_of_lt HGo.out)
      clear bY
      refine (l21One_any (⟨1, smallS p2, ⟨#[]⟩, 0, 0, 0, false⟩ : EN) _ hm1 hm2).mono ?_
      rintro e w5 ⟨rfl, b5⟩
      have errZ := errY.below b5
      have orrZ := orrY.below b5
      have nrrZ := nrrY.below b5
      have tZ := below_trans tY b5
      clear errY orrY nrrY tY b5
      cases hok : enOK (⟨1, smallS p2, ⟨#[]⟩, 0, 0, 0, false⟩ : EN)
      · have E := Lib.hid (PX.out.trans (if_neg (by rw [hok]; exact fun e => by cases e.1)))
        have n0 := nrrZ.cell enV_len (i := 0) (j := 0) rfl rfl
        have n1 := nrrZ.cell enV_len (i := 0) (j := 1) rfl rfl
        have n2 := nrrZ.cell enV_len (i := 0) (j := 2) rfl rfl
        have n3 := nrrZ.cell enV_len (i := 0) (j := 3) rfl rfl
        have n4 := nrrZ.cell enV_len (i := 0) (j := 4) rfl rfl
        have n5 := nrrZ.cell enV_len (i := 0) (j := 5) rfl rfl
        have n6 := nrrZ.cell enV_len (i := 0) (j := 6) rfl rfl
        simp only [Nat.zero_mul, Nat.zero_add] at n0 n1 n2 n3 n4 n5 n6
        have z0 := orrZ.cell enV_len (i := 0) (j := 0) rfl rfl
        have z1 := orrZ.cell enV_len (i := 0) (j := 1) rfl rfl
        have z2 := orrZ.cell enV_len (i := 0) (j := 2) rfl rfl
        have z3 := orrZ.cell enV_len (i := 0) (j := 3) rfl rfl
        have z4 := orrZ.cell enV_len (i := 0) (j := 4) rfl rfl
        have z5 := orrZ.cell enV_len (i := 0) (j := 5) rfl rfl
        have z6 := orrZ.cell enV_len (i := 0) (j := 6) rfl rfl
        simp only [Nat.zero_mul, Nat.zero_add] at z0 z1 z2 z3 z4 z5 z6
        have f0 := orrZ.frozen 0
        have f1 := orrZ.frozen 1
        have f2 := orrZ.frozen 2
        have f3 := orrZ.frozen 3
        have f4 := orrZ.frozen 4
        have f5 := orrZ.frozen 5
        have f6 := orrZ.frozen 6
        go_wp2
        exact bodyPost_ret (v := .tuple #[.agg #[.int .i64 0, .string ⟨#[]⟩, .string ⟨#[]⟩, .int .i64 0, .int .i64 0, .int .i64 0, .bool false], .bool false]) (by simp [results, Tryz.results29, go_sem, z0, z1, z2, z3, z4, z5, z6]) rfl ⟨by rw [E.out], by exact (below_setCell (below_setCell (below_setCell (below_setCell (below_setCell (below_setCell (below_setCell tZ _ _ _ (Nat.le_refl _)) _ _ _ (Nat.le_refl _)) _ _ _ (Nat.le_refl _)) _ _ _ (Nat.le_refl _)) _ _ _ (Nat.le_refl _)) _ _ _ (Nat.le_refl _)) _ _ _ (Nat.le_refl _))⟩
      · have HK := Lib.hid (of_decide_eq_true hok)
        have OK := Lib.hid hok
        have y0 := errZ.cell enV_len (i := 0) (j := 0) rfl rfl
        have y1 := errZ.cell enV_len (i := 0) (j := 1) rfl rfl
        have y2 := errZ.cell enV_len (i := 0) (j := 2) rfl rfl
        have y3 := errZ.cell enV_len (i := 0) (j := 3) rfl rfl
        have y4 := errZ.cell enV_len (i := 0) (j := 4) rfl rfl
        have y5 := errZ.cell enV_len (i := 0) (j := 5) rfl rfl
        have y6 := errZ.cell enV_len (i := 0) (j := 6) rfl rfl
        simp only [Nat.zero_mul, Nat.zero_add] at y0 y1 y2 y3 y4 y5 y6
        clear hok
        go_wp2_with fail
        refine (l21Text_any (⟨1, smallS p2, ⟨#[]⟩, 0, 0, 0, false⟩ : EN) _ HK.out).mono ?_
        rintro e w6 ⟨rfl, b6⟩
        replace errZ := errZ.below b6
        replace orrZ := orrZ.below b6
        replace nrrZ := nrrZ.below b6
        replace tZ := below_trans tZ b6
        clear y0 y1 y2 y3 y4 y5 y6 b6
        by_cases hse : senS (⟨1, smallS p2, ⟨#[]⟩, 0, 0, 0, false⟩ : EN) = s
        · have E := Lib.hid (PX.out.trans (if_pos ⟨OK.out, hse⟩))
          have hq1 := bytes_eq_t hse
          have hq2 := lt_tn hse
          clear hse
          have y0 := errZ.cell enV_len (i := 0) (j := 0) rfl rfl
          have y1 := errZ.cell enV_len (i := 0) (j := 1) rfl rfl
          have y2 := errZ.cell enV_len (i := 0) (j := 2) rfl rfl
          have y3 := errZ.cell enV_len (i := 0) (j := 3) rfl rfl
          have y4 := errZ.cell enV_len (i := 0) (j := 4) rfl rfl
          have y5 := errZ.cell enV_len (i := 0) (j := 5) rfl rfl
          have y6 := errZ.cell enV_len (i := 0) (j := 6) rfl rfl
          simp only [Nat.zero_mul, Nat.zero_add] at y0 y1 y2 y3 y4 y5 y6
          have z0 := orrZ.cell enV_len (i := 0) (j := 0) rfl rfl
          have z1 := orrZ.cell enV_len (i := 0) (j := 1) rfl rfl
          have z2 := orrZ.cell enV_len (i := 0) (j := 2) rfl rfl
          have z3 := orrZ.cell enV_len (i := 0) (j := 3) rfl rfl
          have z4 := orrZ.cell enV_len (i := 0) (j := 4) rfl rfl
          have z5 := orrZ.cell enV_len (i := 0) (j := 5) rfl rfl
          have z6 := orrZ.cell enV_len (i := 0) (j := 6) rfl rfl
          simp only [Nat.zero_mul, Nat.zero_add] at z0 z1 z2 z3 z4 z5 z6
          have f0 := orrZ.frozen 0
          have f1 := orrZ.frozen 1
          have f2 := orrZ.frozen 2
          have f3 := orrZ.frozen 3
          have f4 := orrZ.frozen 4
          have f5 := orrZ.frozen 5
          have f6 := orrZ.frozen 6
          go_wp2
          exact bodyPost_ret (v := .tuple #[.agg #[.int .i64 1, .string (smallS p2), .string ⟨#[]⟩, .int .i64 0, .int .i64 0, .int .i64 0, .bool false], .bool true]) (by simp [results, Tryz.results29, go_sem, z0, z1, z2, z3, z4, z5, z6]) rfl ⟨by rw [E.out], by exact (below_setCell (below_setCell (below_setCell (below_setCell (below_setCell (below_setCell (below_setCell tZ _ _ _ (Nat.le_refl _)) _ _ _ (Nat.le_refl _)) _ _ _ (Nat.le_refl _)) _ _ _ (Nat.le_refl _)) _ _ _ (Nat.le_refl _)) _ _ _ (Nat.le_refl _)) _ _ _ (Nat.le_refl _))⟩
        · have E := Lib.hid (PX.out.trans (if_neg (fun e => hse e.2)))
          have hq1 := bytes_eq_f hse
          have hq2 := lt_fn hse
          clear hse
          have n0 := nrrZ.cell enV_len (i := 0) (j := 0) rfl rfl
          have n1 := nrrZ.cell enV_len (i := 0) (j := 1) rfl rfl
          have n2 := nrrZ.cell enV_len (i := 0) (j := 2) rfl rfl
          have n3 := nrrZ.cell enV_len (i := 0) (j := 3) rfl rfl
          have n4 := nrrZ.cell enV_len (i := 0) (j := 4) rfl rfl
          have n5 := nrrZ.cell enV_len (i := 0) (j := 5) rfl rfl
          have n6 := nrrZ.cell enV_len (i := 0) (j := 6) rfl rfl
          simp only [Nat.zero_mul, Nat.zero_add] at n0 n1 n2 n3 n4 n5 n6
          have z0 := orrZ.cell enV_len (i := 0) (j := 0) rfl rfl
          have z1 := orrZ.cell enV_len (i := 0) (j := 1) rfl rfl
          have z2 := orrZ.cell enV_len (i := 0) (j := 2) rfl rfl
          have z3 := orrZ.cell enV_len (i := 0) (j := 3) rfl rfl
          have z4 := orrZ.cell enV_len (i := 0) (j := 4) rfl rfl
          have z5 := orrZ.cell enV_len (i := 0) (j := 5) rfl rfl
          have z6 := orrZ.cell enV_len (i := 0) (j := 6) rfl rfl
          simp only [Nat.zero_mul, Nat.zero_add] at z0 z1 z2 z3 z4 z5 z6
          have f0 := orrZ.frozen 0
          have f1 := orrZ.frozen 1
          have f2 := orrZ.frozen 2
          have f3 := orrZ.frozen 3
          have f4 := orrZ.frozen 4
          have f5 := orrZ.frozen 5
          have f6 := orrZ.frozen 6
          go_wp2
          exact bodyPost_ret (v := .tuple #[.agg #[.int .i64 0, .string ⟨#[]⟩, .string ⟨#[]⟩, .int .i64 0, .int .i64 0, .int .i64 0, .bool false], .bool false]) (by simp [results, Tryz.results29, go_sem, z0, z1, z2, z3, z4, z5, z6]) rfl ⟨by rw [E.out], by exact (below_setCell (below_setCell (below_setCell (below_setCell (below_setCell (below_setCell (below_setCell tZ _ _ _ (Nat.le_refl _)) _ _ _ (Nat.le_refl _)) _ _ _ (Nat.le_refl _)) _ _ _ (Nat.le_refl _)) _ _ _ (Nat.le_refl _)) _ _ _ (Nat.le_refl _)) _ _ _ (Nat.le_refl _))⟩
    have q3 := lt_f [111, 112, 101, 110, 101, 100] (⟨#[111, 112, 101, 110, 101, 100]⟩ : ByteArray) (by simp) e3
    by_cases e4 : p3 = (⟨#[99, 108, 111, 115, 101, 100]⟩ : ByteArray)
    · have q4 := lt_t [99, 108, 111, 115, 101, 100] (⟨#[99, 108, 111, 115, 101, 100]⟩ : ByteArray) (by simp) e4
      have hx := Lib.hid ((candE_3 (fun h => by have := h.1; have := hl'.out; omega) (fun h => e1 (Xp1.out.symm.trans h.2)) (fun h => e3 (Xp3.out.symm.trans h.2)) ⟨hl'.out, Xp3.out.trans e4⟩).trans (by rw [Xp2.out]))
      clear e1 e3 e4
      have SM : Hid (∀ w2, Calls Tryz.prog 53 #[.string p2] w2 fun e w' => e = .returned (.string (smallS p2)) ∧ Below w2.heap.size w2 w') := fun w2 => l21Small_any p2 w2 zp2
      have zs := small_sz p2
      have hm1 : (smallS p2).size ≤ maxLen := by simp only [maxLen]; omega
      have hm2 : (⟨#[]⟩ : ByteArray).size ≤ maxLen := Nat.zero_le _
      have PX : Hid (parE s = if enOK (⟨6, smallS p2, ⟨#[]⟩, 0, 0, 0, false⟩ : EN) = true ∧ senS (⟨6, smallS p2, ⟨#[]⟩, 0, 0, 0, false⟩ : EN) = s then ((⟨6, smallS p2, ⟨#[]⟩, 0, 0, 0, false⟩ : EN), true) else (⟨0, ⟨#[]⟩, ⟨#[]⟩, 0, 0, 0, false⟩, false)) := by have h9 := PE.out; rw [hx.out] at h9; exact h9
      go_wp2_with fail
      refine (SM.out _).mono ?_
      rintro e wa ⟨rfl, ba⟩
      have errA := (by first | exact err.drew.below ba | exact err.below ba : Own enV 7 wa g 27 (some ⟨g, 0, none⟩) 1 1 [⟨0, ⟨#[]⟩, ⟨#[]⟩, 0, 0, 0, false⟩])
      have orrA := (by first | exact orr.drew.below ba | exact orr.below ba : Own enV 7 wa w.heap.size 27 (some ⟨w.heap.size, 0, none⟩) 1 1 [⟨0, ⟨#[]⟩, ⟨#[]⟩, 0, 0, 0, false⟩])
      have nrrA := (by first | exact nrr.drew.below ba | exact nrr.below ba : Own enV 7 wa (w.heap.size + 1) 27 (some ⟨w.heap.size + 1, 0, none⟩) 1 1 [⟨0, ⟨#[]⟩, ⟨#[]⟩, 0, 0, 0, false⟩])
      have tA := (by first | exact below_trans t3.drew ba | exact below_trans t3 ba : Below w.heap.size w wa)
      have y0 := errA.cell enV_len (i := 0) (j := 0) rfl rfl
      have y1 := errA.cell enV_len (i := 0) (j := 1) rfl rfl
      have y2 := errA.cell enV_len (i := 0) (j := 2) rfl rfl
      have y3 := errA.cell enV_len (i := 0) (j := 3) rfl rfl
      have y4 := errA.cell enV_len (i := 0) (j := 4) rfl rfl
      have y5 := errA.cell enV_len (i := 0) (j := 5) rfl rfl
      have y6 := errA.cell enV_len (i := 0) (j := 6) rfl rfl
      simp only [Nat.zero_mul, Nat.zero_add] at y0 y1 y2 y3 y4 y5 y6
      have f0 := errA.frozen 0
      have f1 := errA.frozen 1
      have f2 := errA.frozen 2
      have f3 := errA.frozen 3
      have f4 := errA.frozen 4
      have f5 := errA.frozen 5
      have f6 := errA.frozen 6
      go_wp2_with fail
      have bY : Below g wa (putCells wa g 0 (enV (⟨6, smallS p2, ⟨#[]⟩, 0, 0, 0, false⟩ : EN))) := below_puts (enV (⟨6, smallS p2, ⟨#[]⟩, 0, 0, 0, false⟩ : EN)) 0 (Below.refl g wa) (Nat.le_refl _)
      have errY := (errA.puts enV_len 0 (⟨6, smallS p2, ⟨#[]⟩, 0, 0, 0, false⟩ : EN) (by omega)).1
      rw [Nat.zero_mul] at errY
      have orrY := orrA.put_below bY (fun k hk => by cases hk; exact HGo.out)
      have nrrY := nrrA.put_below bY (fun k hk => by cases hk; exact HGn.out)
      have tY : Below w.heap.size w (putCells wa g 0 (enV (⟨6, smallS p2, ⟨#[]⟩, 0, 0, 0, false⟩ : EN))) := below_puts (enV (⟨6, smallS p2, ⟨#[]⟩, 0, 0, 0, false⟩ : EN)) 0 tA (Nat.le_of_lt HGo.out)
      clear bY
      refine (l21One_any (⟨6, smallS p2, ⟨#[]⟩, 0, 0, 0, false⟩ : EN) _ hm1 hm2).mono ?_
      rintro e w5 ⟨rfl, b5⟩
      have errZ := errY.below b5
      have orrZ := orrY.below b5
      have nrrZ := nrrY.below b5
      have tZ := below_trans tY b5
      clear errY orrY nrrY tY b5
      cases hok : enOK (⟨6, smallS p2, ⟨#[]⟩, 0, 0, 0, false⟩ : EN)
      · have E := Lib.hid (PX.out.trans (if_neg (by rw [hok]; exact fun e => by cases e.1)))
        have n0 := nrrZ.cell enV_len (i := 0) (j := 0) rfl rfl
        have n1 := nrrZ.cell enV_len (i := 0) (j := 1) rfl rfl
        have n2 := nrrZ.cell enV_len (i := 0) (j := 2) rfl rfl
        have n3 := nrrZ.cell enV_len (i := 0) (j := 3) rfl rfl
        have n4 := nrrZ.cell enV_len (i := 0) (j := 4) rfl rfl
        have n5 := nrrZ.cell enV_len (i := 0) (j := 5) rfl rfl
        have n6 := nrrZ.cell enV_len (i := 0) (j := 6) rfl rfl
        simp only [Nat.zero_mul, Nat.zero_add] at n0 n1 n2 n3 n4 n5 n6
        have z0 := orrZ.cell enV_len (i := 0) (j := 0) rfl rfl
        have z1 := orrZ.cell enV_len (i := 0) (j := 1) rfl rfl
        have z2 := orrZ.cell enV_len (i := 0) (j := 2) rfl rfl
        have z3 := orrZ.cell enV_len (i := 0) (j := 3) rfl rfl
        have z4 := orrZ.cell enV_len (i := 0) (j := 4) rfl rfl
        have z5 := orrZ.cell enV_len (i := 0) (j := 5) rfl rfl
        have z6 := orrZ.cell enV_len (i := 0) (j := 6) rfl rfl
        simp only [Nat.zero_mul, Nat.zero_add] at z0 z1 z2 z3 z4 z5 z6
        have f0 := orrZ.frozen 0
        have f1 := orrZ.frozen 1
        have f2 := orrZ.frozen 2
        have f3 := orrZ.frozen 3
        have f4 := orrZ.frozen 4
        have f5 := orrZ.frozen 5
        have f6 := orrZ.frozen 6
        go_wp2
        exact bodyPost_ret (v := .tuple #[.agg #[.int .i64 0, .string ⟨#[]⟩, .string ⟨#[]⟩, .int .i64 0, .int .i64 0, .int .i64 0, .bool false], .bool false]) (by simp [results, Tryz.results29, go_sem, z0, z1, z2, z3, z4, z5, z6]) rfl ⟨by rw [E.out], by exact (below_setCell (below_setCell (below_setCell (below_setCell (below_setCell (below_setCell (below_setCell tZ _ _ _ (Nat.le_refl _)) _ _ _ (Nat.le_refl _)) _ _ _ (Nat.le_refl _)) _ _ _ (Nat.le_refl _)) _ _ _ (Nat.le_refl _)) _ _ _ (Nat.le_refl _)) _ _ _ (Nat.le_refl _))⟩
      · have HK := Lib.hid (of_decide_eq_true hok)
        have OK := Lib.hid hok
        have y0 := errZ.cell enV_len (i := 0) (j := 0) rfl rfl
        have y1 := errZ.cell enV_len (i := 0) (j := 1) rfl rfl
        have y2 := errZ.cell enV_len (i := 0) (j := 2) rfl rfl
        have y3 := errZ.cell enV_len (i := 0) (j := 3) rfl rfl
        have y4 := errZ.cell enV_len (i := 0) (j := 4) rfl rfl
        have y5 := errZ.cell enV_len (i := 0) (j := 5) rfl rfl
        have y6 := errZ.cell enV_len (i := 0) (j := 6) rfl rfl
        simp only [Nat.zero_mul, Nat.zero_add] at y0 y1 y2 y3 y4 y5 y6
        clear hok
        go_wp2_with fail
        refine (l21Text_any (⟨6, smallS p2, ⟨#[]⟩, 0, 0, 0, false⟩ : EN) _ HK.out).mono ?_
        rintro e w6 ⟨rfl, b6⟩
        replace errZ := errZ.below b6
        replace orrZ := orrZ.below b6
        replace nrrZ := nrrZ.below b6
        replace tZ := below_trans tZ b6
        clear y0 y1 y2 y3 y4 y5 y6 b6
        by_cases hse : senS (⟨6, smallS p2, ⟨#[]⟩, 0, 0, 0, false⟩ : EN) = s
        · have E := Lib.hid (PX.out.trans (if_pos ⟨OK.out, hse⟩))
          have hq1 := bytes_eq_t hse
          have hq2 := lt_tn hse
          clear hse
          have y0 := errZ.cell enV_len (i := 0) (j := 0) rfl rfl
          have y1 := errZ.cell enV_len (i := 0) (j := 1) rfl rfl
          have y2 := errZ.cell enV_len (i := 0) (j := 2) rfl rfl
          have y3 := errZ.cell enV_len (i := 0) (j := 3) rfl rfl
          have y4 := errZ.cell enV_len (i := 0) (j := 4) rfl rfl
          have y5 := errZ.cell enV_len (i := 0) (j := 5) rfl rfl
          have y6 := errZ.cell enV_len (i := 0) (j := 6) rfl rfl
          simp only [Nat.zero_mul, Nat.zero_add] at y0 y1 y2 y3 y4 y5 y6
          have z0 := orrZ.cell enV_len (i := 0) (j := 0) rfl rfl
          have z1 := orrZ.cell enV_len (i := 0) (j := 1) rfl rfl
          have z2 := orrZ.cell enV_len (i := 0) (j := 2) rfl rfl
          have z3 := orrZ.cell enV_len (i := 0) (j := 3) rfl rfl
          have z4 := orrZ.cell enV_len (i := 0) (j := 4) rfl rfl
          have z5 := orrZ.cell enV_len (i := 0) (j := 5) rfl rfl
          have z6 := orrZ.cell enV_len (i := 0) (j := 6) rfl rfl
          simp only [Nat.zero_mul, Nat.zero_add] at z0 z1 z2 z3 z4 z5 z6
          have f0 := orrZ.frozen 0
          have f1 := orrZ.frozen 1
          have f2 := orrZ.frozen 2
          have f3 := orrZ.frozen 3
          have f4 := orrZ.frozen 4
          have f5 := orrZ.frozen 5
          have f6 := orrZ.frozen 6
          go_wp2
          exact bodyPost_ret (v := .tuple #[.agg #[.int .i64 6, .string (smallS p2), .string ⟨#[]⟩, .int .i64 0, .int .i64 0, .int .i64 0, .bool false], .bool true]) (by simp [results, Tryz.results29, go_sem, z0, z1, z2, z3, z4, z5, z6]) rfl ⟨by rw [E.out], by exact (below_setCell (below_setCell (below_setCell (below_setCell (below_setCell (below_setCell (below_setCell tZ _ _ _ (Nat.le_refl _)) _ _ _ (Nat.le_refl _)) _ _ _ (Nat.le_refl _)) _ _ _ (Nat.le_refl _)) _ _ _ (Nat.le_refl _)) _ _ _ (Nat.le_refl _)) _ _ _ (Nat.le_refl _))⟩
        · have E := Lib.hid (PX.out.trans (if_neg (fun e => hse e.2)))
          have hq1 := bytes_eq_f hse
          have hq2 := lt_fn hse
          clear hse
          have n0 := nrrZ.cell enV_len (i := 0) (j := 0) rfl rfl
          have n1 := nrrZ.cell enV_len (i := 0) (j := 1) rfl rfl
          have n2 := nrrZ.cell enV_len (i := 0) (j := 2) rfl rfl
          have n3 := nrrZ.cell enV_len (i := 0) (j := 3) rfl rfl
          have n4 := nrrZ.cell enV_len (i := 0) (j := 4) rfl rfl
          have n5 := nrrZ.cell enV_len (i := 0) (j := 5) rfl rfl
          have n6 := nrrZ.cell enV_len (i := 0) (j := 6) rfl rfl
          simp only [Nat.zero_mul, Nat.zero_add] at n0 n1 n2 n3 n4 n5 n6
          have z0 := orrZ.cell enV_len (i := 0) (j := 0) rfl rfl
          have z1 := orrZ.cell enV_len (i := 0) (j := 1) rfl rfl
          have z2 := orrZ.cell enV_len (i := 0) (j := 2) rfl rfl
          have z3 := orrZ.cell enV_len (i := 0) (j := 3) rfl rfl
          have z4 := orrZ.cell enV_len (i := 0) (j := 4) rfl rfl
          have z5 := orrZ.cell enV_len (i := 0) (j := 5) rfl rfl
          have z6 := orrZ.cell enV_len (i := 0) (j := 6) rfl rfl
          simp only [Nat.zero_mul, Nat.zero_add] at z0 z1 z2 z3 z4 z5 z6
          have f0 := orrZ.frozen 0
          have f1 := orrZ.frozen 1
          have f2 := orrZ.frozen 2
          have f3 := orrZ.frozen 3
          have f4 := orrZ.frozen 4
          have f5 := orrZ.frozen 5
          have f6 := orrZ.frozen 6
          go_wp2
          exact bodyPost_ret (v := .tuple #[.agg #[.int .i64 0, .string ⟨#[]⟩, .string ⟨#[]⟩, .int .i64 0, .int .i64 0, .int .i64 0, .bool false], .bool false]) (by simp [results, Tryz.results29, go_sem, z0, z1, z2, z3, z4, z5, z6]) rfl ⟨by rw [E.out], by exact (below_setCell (below_setCell (below_setCell (below_setCell (below_setCell (below_setCell (below_setCell tZ _ _ _ (Nat.le_refl _)) _ _ _ (Nat.le_refl _)) _ _ _ (Nat.le_refl _)) _ _ _ (Nat.le_refl _)) _ _ _ (Nat.le_refl _)) _ _ _ (Nat.le_refl _)) _ _ _ (Nat.le_refl _))⟩
    have q4 := lt_f [99, 108, 111, 115, 101, 100] (⟨#[99, 108, 111, 115, 101, 100]⟩ : ByteArray) (by simp) e4
    have hx := Lib.hid (candE_6 (fun h => by have := h.1; have := hl'.out; omega) (fun h => e1 (Xp1.out.symm.trans h.2)) (fun h => e3 (Xp3.out.symm.trans h.2)) (fun h => e4 (Xp3.out.symm.trans h.2)) (fun h => by have := h.1; have := hl'.out; omega) (fun h => by have := h.1; have := hl'.out; omega))
    clear e1 e3 e4
    have hm1 : (⟨#[]⟩ : ByteArray).size ≤ maxLen := Nat.zero_le _
    have hm2 : (⟨#[]⟩ : ByteArray).size ≤ maxLen := Nat.zero_le _
    have PX : Hid (parE s = if enOK (⟨0, ⟨#[]⟩, ⟨#[]⟩, 0, 0, 0, false⟩ : EN) = true ∧ senS (⟨0, ⟨#[]⟩, ⟨#[]⟩, 0, 0, 0, false⟩ : EN) = s then ((⟨0, ⟨#[]⟩, ⟨#[]⟩, 0, 0, 0, false⟩ : EN), true) else (⟨0, ⟨#[]⟩, ⟨#[]⟩, 0, 0, 0, false⟩, false)) := by have h9 := PE.out; rw [hx.out] at h9; exact h9
    have errY := err
    have orrY := orr
    have nrrY := nrr
    have tY := t3
    have y0 := err.cell enV_len (i := 0) (j := 0) rfl rfl
    have y1 := err.cell enV_len (i := 0) (j := 1) rfl rfl
    have y2 := err.cell enV_len (i := 0) (j := 2) rfl rfl
    have y3 := err.cell enV_len (i := 0) (j := 3) rfl rfl
    have y4 := err.cell enV_len (i := 0) (j := 4) rfl rfl
    have y5 := err.cell enV_len (i := 0) (j := 5) rfl rfl
    have y6 := err.cell enV_len (i := 0) (j := 6) rfl rfl
    simp only [Nat.zero_mul, Nat.zero_add] at y0 y1 y2 y3 y4 y5 y6
    go_wp2_with fail
    refine (l21One_any (⟨0, ⟨#[]⟩, ⟨#[]⟩, 0, 0, 0, false⟩ : EN) _ hm1 hm2).mono ?_
    rintro e w5 ⟨rfl, b5⟩
    have errZ := errY.below b5
    have orrZ := orrY.below b5
    have nrrZ := nrrY.below b5
    have tZ := below_trans tY b5
    clear errY orrY nrrY tY b5
    cases hok : enOK (⟨0, ⟨#[]⟩, ⟨#[]⟩, 0, 0, 0, false⟩ : EN)
    · have E := Lib.hid (PX.out.trans (if_neg (by rw [hok]; exact fun e => by cases e.1)))
      have n0 := nrrZ.cell enV_len (i := 0) (j := 0) rfl rfl
      have n1 := nrrZ.cell enV_len (i := 0) (j := 1) rfl rfl
      have n2 := nrrZ.cell enV_len (i := 0) (j := 2) rfl rfl
      have n3 := nrrZ.cell enV_len (i := 0) (j := 3) rfl rfl
      have n4 := nrrZ.cell enV_len (i := 0) (j := 4) rfl rfl
      have n5 := nrrZ.cell enV_len (i := 0) (j := 5) rfl rfl
      have n6 := nrrZ.cell enV_len (i := 0) (j := 6) rfl rfl
      simp only [Nat.zero_mul, Nat.zero_add] at n0 n1 n2 n3 n4 n5 n6
      have z0 := orrZ.cell enV_len (i := 0) (j := 0) rfl rfl
      have z1 := orrZ.cell enV_len (i := 0) (j := 1) rfl rfl
      have z2 := orrZ.cell enV_len (i := 0) (j := 2) rfl rfl
      have z3 := orrZ.cell enV_len (i := 0) (j := 3) rfl rfl
      have z4 := orrZ.cell enV_len (i := 0) (j := 4) rfl rfl
      have z5 := orrZ.cell enV_len (i := 0) (j := 5) rfl rfl
      have z6 := orrZ.cell enV_len (i := 0) (j := 6) rfl rfl
      simp only [Nat.zero_mul, Nat.zero_add] at z0 z1 z2 z3 z4 z5 z6
      have f0 := orrZ.frozen 0
      have f1 := orrZ.frozen 1
      have f2 := orrZ.frozen 2
      have f3 := orrZ.frozen 3
      have f4 := orrZ.frozen 4
      have f5 := orrZ.frozen 5
      have f6 := orrZ.frozen 6
      go_wp2
      exact bodyPost_ret (v := .tuple #[.agg #[.int .i64 0, .string ⟨#[]⟩, .string ⟨#[]⟩, .int .i64 0, .int .i64 0, .int .i64 0, .bool false], .bool false]) (by simp [results, Tryz.results29, go_sem, z0, z1, z2, z3, z4, z5, z6]) rfl ⟨by rw [E.out], by exact (below_setCell (below_setCell (below_setCell (below_setCell (below_setCell (below_setCell (below_setCell tZ _ _ _ (Nat.le_refl _)) _ _ _ (Nat.le_refl _)) _ _ _ (Nat.le_refl _)) _ _ _ (Nat.le_refl _)) _ _ _ (Nat.le_refl _)) _ _ _ (Nat.le_refl _)) _ _ _ (Nat.le_refl _))⟩
    · have HK := Lib.hid (of_decide_eq_true hok)
      have OK := Lib.hid hok
      have y0 := errZ.cell enV_len (i := 0) (j := 0) rfl rfl
      have y1 := errZ.cell enV_len (i := 0) (j := 1) rfl rfl
      have y2 := errZ.cell enV_len (i := 0) (j := 2) rfl rfl
      have y3 := errZ.cell enV_len (i := 0) (j := 3) rfl rfl
      have y4 := errZ.cell enV_len (i := 0) (j := 4) rfl rfl
      have y5 := errZ.cell enV_len (i := 0) (j := 5) rfl rfl
      have y6 := errZ.cell enV_len (i := 0) (j := 6) rfl rfl
      simp only [Nat.zero_mul, Nat.zero_add] at y0 y1 y2 y3 y4 y5 y6
      clear hok
      go_wp2_with fail
      refine (l21Text_any (⟨0, ⟨#[]⟩, ⟨#[]⟩, 0, 0, 0, false⟩ : EN) _ HK.out).mono ?_
      rintro e w6 ⟨rfl, b6⟩
      replace errZ := errZ.below b6
      replace orrZ := orrZ.below b6
      replace nrrZ := nrrZ.below b6
      replace tZ := below_trans tZ b6
      clear y0 y1 y2 y3 y4 y5 y6 b6
      by_cases hse : senS (⟨0, ⟨#[]⟩, ⟨#[]⟩, 0, 0, 0, false⟩ : EN) = s
      · have E := Lib.hid (PX.out.trans (if_pos ⟨OK.out, hse⟩))
        have hq1 := bytes_eq_t hse
        have hq2 := lt_tn hse
        clear hse
        have y0 := errZ.cell enV_len (i := 0) (j := 0) rfl rfl
        have y1 := errZ.cell enV_len (i := 0) (j := 1) rfl rfl
        have y2 := errZ.cell enV_len (i := 0) (j := 2) rfl rfl
        have y3 := errZ.cell enV_len (i := 0) (j := 3) rfl rfl
        have y4 := errZ.cell enV_len (i := 0) (j := 4) rfl rfl
        have y5 := errZ.cell enV_len (i := 0) (j := 5) rfl rfl
        have y6 := errZ.cell enV_len (i := 0) (j := 6) rfl rfl
        simp only [Nat.zero_mul, Nat.zero_add] at y0 y1 y2 y3 y4 y5 y6
        have z0 := orrZ.cell enV_len (i := 0) (j := 0) rfl rfl
        have z1 := orrZ.cell enV_len (i := 0) (j := 1) rfl rfl
        have z2 := orrZ.cell enV_len (i := 0) (j := 2) rfl rfl
        have z3 := orrZ.cell enV_len (i := 0) (j := 3) rfl rfl
        have z4 := orrZ.cell enV_len (i := 0) (j := 4) rfl rfl
        have z5 := orrZ.cell enV_len (i := 0) (j := 5) rfl rfl
        have z6 := orrZ.cell enV_len (i := 0) (j := 6) rfl rfl
        simp only [Nat.zero_mul, Nat.zero_add] at z0 z1 z2 z3 z4 z5 z6
        have f0 := orrZ.frozen 0
        have f1 := orrZ.frozen 1
        have f2 := orrZ.frozen 2
        have f3 := orrZ.frozen 3
        have f4 := orrZ.frozen 4
        have f5 := orrZ.frozen 5
        have f6 := orrZ.frozen 6
        go_wp2
        exact bodyPost_ret (v := .tuple #[.agg #[.int .i64 0, .string ⟨#[]⟩, .string ⟨#[]⟩, .int .i64 0, .int .i64 0, .int .i64 0, .bool false], .bool true]) (by simp [results, Tryz.results29, go_sem, z0, z1, z2, z3, z4, z5, z6]) rfl ⟨by rw [E.out], by exact (below_setCell (below_setCell (below_setCell (below_setCell (below_setCell (below_setCell (below_setCell tZ _ _ _ (Nat.le_refl _)) _ _ _ (Nat.le_refl _)) _ _ _ (Nat.le_refl _)) _ _ _ (Nat.le_refl _)) _ _ _ (Nat.le_refl _)) _ _ _ (Nat.le_refl _)) _ _ _ (Nat.le_refl _))⟩
      · have E := Lib.hid (PX.out.trans (if_neg (fun e => hse e.2)))
        have hq1 := bytes_eq_f hse
        have hq2 := lt_fn hse
        clear hse
        have n0 := nrrZ.cell enV_len (i := 0) (j := 0) rfl rfl
        have n1 := nrrZ.cell enV_len (i := 0) (j := 1) rfl rfl
        have n2 := nrrZ.cell enV_len (i := 0) (j := 2) rfl rfl
        have n3 := nrrZ.cell enV_len (i := 0) (j := 3) rfl rfl
        have n4 := nrrZ.cell enV_len (i := 0) (j := 4) rfl rfl
        have n5 := nrrZ.cell enV_len (i := 0) (j := 5) rfl rfl
        have n6 := nrrZ.cell enV_len (i := 0) (j := 6) rfl rfl
        simp only [Nat.zero_mul, Nat.zero_add] at n0 n1 n2 n3 n4 n5 n6
        have z0 := orrZ.cell enV_len (i := 0) (j := 0) rfl rfl
        have z1 := orrZ.cell enV_len (i := 0) (j := 1) rfl rfl
        have z2 := orrZ.cell enV_len (i := 0) (j := 2) rfl rfl
        have z3 := orrZ.cell enV_len (i := 0) (j := 3) rfl rfl
        have z4 := orrZ.cell enV_len (i := 0) (j := 4) rfl rfl
        have z5 := orrZ.cell enV_len (i := 0) (j := 5) rfl rfl
        have z6 := orrZ.cell enV_len (i := 0) (j := 6) rfl rfl
        simp only [Nat.zero_mul, Nat.zero_add] at z0 z1 z2 z3 z4 z5 z6
        have f0 := orrZ.frozen 0
        have f1 := orrZ.frozen 1
        have f2 := orrZ.frozen 2
        have f3 := orrZ.frozen 3
        have f4 := orrZ.frozen 4
        have f5 := orrZ.frozen 5
        have f6 := orrZ.frozen 6
        go_wp2
        exact bodyPost_ret (v := .tuple #[.agg #[.int .i64 0, .string ⟨#[]⟩, .string ⟨#[]⟩, .int .i64 0, .int .i64 0, .int .i64 0, .bool false], .bool false]) (by simp [results, Tryz.results29, go_sem, z0, z1, z2, z3, z4, z5, z6]) rfl ⟨by rw [E.out], by exact (below_setCell (below_setCell (below_setCell (below_setCell (below_setCell (below_setCell (below_setCell tZ _ _ _ (Nat.le_refl _)) _ _ _ (Nat.le_refl _)) _ _ _ (Nat.le_refl _)) _ _ _ (Nat.le_refl _)) _ _ _ (Nat.le_refl _)) _ _ _ (Nat.le_refl _)) _ _ _ (Nat.le_refl _))⟩
  have g4 : ((q : Int) == 4) = false := by rw [beq_eq_false_iff_ne]; omega
  have g6 : ((q : Int) == 6) = false := by rw [beq_eq_false_iff_ne]; omega
  by_cases h10 : 10 ≤ q
  rotate_left
  · have g10 : ¬ 10 ≤ (q : Int) := by omega
    have hx := Lib.hid (candE_6 (ws := ws) (fun h => by have := h.1; have := hl'.out; omega) (fun h => by have := h.1; have := hl'.out; omega) (fun h => by have := h.1; have := hl'.out; omega) (fun h => by have := h.1; have := hl'.out; omega) (fun h => by have := h.1; have := hl'.out; omega) (fun h => by have := h.1; have := hl'.out; omega))
    have hm1 : (⟨#[]⟩ : ByteArray).size ≤ maxLen := Nat.zero_le _
    have hm2 : (⟨#[]⟩ : ByteArray).size ≤ maxLen := Nat.zero_le _
    have PX : Hid (parE s = if enOK (⟨0, ⟨#[]⟩, ⟨#[]⟩, 0, 0, 0, false⟩ : EN) = true ∧ senS (⟨0, ⟨#[]⟩, ⟨#[]⟩, 0, 0, 0, false⟩ : EN) = s then ((⟨0, ⟨#[]⟩, ⟨#[]⟩, 0, 0, 0, false⟩ : EN), true) else (⟨0, ⟨#[]⟩, ⟨#[]⟩, 0, 0, 0, false⟩, false)) := by have h9 := PE.out; rw [hx.out] at h9; exact h9
    have errY := err
    have orrY := orr
    have nrrY := nrr
    have tY := t3
    have y0 := err.cell enV_len (i := 0) (j := 0) rfl rfl
    have y1 := err.cell enV_len (i := 0) (j := 1) rfl rfl
    have y2 := err.cell enV_len (i := 0) (j := 2) rfl rfl
    have y3 := err.cell enV_len (i := 0) (j := 3) rfl rfl
    have y4 := err.cell enV_len (i := 0) (j := 4) rfl rfl
    have y5 := err.cell enV_len (i := 0) (j := 5) rfl rfl
    have y6 := err.cell enV_len (i := 0) (j := 6) rfl rfl
    simp only [Nat.zero_mul, Nat.zero_add] at y0 y1 y2 y3 y4 y5 y6
    go_wp2_with fail
    refine (l21One_any (⟨0, ⟨#[]⟩, ⟨#[]⟩, 0, 0, 0, false⟩ : EN) _ hm1 hm2).mono ?_
    rintro e w5 ⟨rfl, b5⟩
    have errZ := errY.below b5
    have orrZ := orrY.below b5
    have nrrZ := nrrY.below b5
    have tZ := below_trans tY b5
    clear errY orrY nrrY tY b5
    cases hok : enOK (⟨0, ⟨#[]⟩, ⟨#[]⟩, 0, 0, 0, false⟩ : EN)
    · have E := Lib.hid (PX.out.trans (if_neg (by rw [hok]; exact fun e => by cases e.1)))
      have n0 := nrrZ.cell enV_len (i := 0) (j := 0) rfl rfl
      have n1 := nrrZ.cell enV_len (i := 0) (j := 1) rfl rfl
      have n2 := nrrZ.cell enV_len (i := 0) (j := 2) rfl rfl
      have n3 := nrrZ.cell enV_len (i := 0) (j := 3) rfl rfl
      have n4 := nrrZ.cell enV_len (i := 0) (j := 4) rfl rfl
      have n5 := nrrZ.cell enV_len (i := 0) (j := 5) rfl rfl
      have n6 := nrrZ.cell enV_len (i := 0) (j := 6) rfl rfl
      simp only [Nat.zero_mul, Nat.zero_add] at n0 n1 n2 n3 n4 n5 n6
      have z0 := orrZ.cell enV_len (i := 0) (j := 0) rfl rfl
      have z1 := orrZ.cell enV_len (i := 0) (j := 1) rfl rfl
      have z2 := orrZ.cell enV_len (i := 0) (j := 2) rfl rfl
      have z3 := orrZ.cell enV_len (i := 0) (j := 3) rfl rfl
      have z4 := orrZ.cell enV_len (i := 0) (j := 4) rfl rfl
      have z5 := orrZ.cell enV_len (i := 0) (j := 5) rfl rfl
      have z6 := orrZ.cell enV_len (i := 0) (j := 6) rfl rfl
      simp only [Nat.zero_mul, Nat.zero_add] at z0 z1 z2 z3 z4 z5 z6
      have f0 := orrZ.frozen 0
      have f1 := orrZ.frozen 1
      have f2 := orrZ.frozen 2
      have f3 := orrZ.frozen 3
      have f4 := orrZ.frozen 4
      have f5 := orrZ.frozen 5
      have f6 := orrZ.frozen 6
      go_wp2
      exact bodyPost_ret (v := .tuple #[.agg #[.int .i64 0, .string ⟨#[]⟩, .string ⟨#[]⟩, .int .i64 0, .int .i64 0, .int .i64 0, .bool false], .bool false]) (by simp [results, Tryz.results29, go_sem, z0, z1, z2, z3, z4, z5, z6]) rfl ⟨by rw [E.out], by exact (below_setCell (below_setCell (below_setCell (below_setCell (below_setCell (below_setCell (below_setCell tZ _ _ _ (Nat.le_refl _)) _ _ _ (Nat.le_refl _)) _ _ _ (Nat.le_refl _)) _ _ _ (Nat.le_refl _)) _ _ _ (Nat.le_refl _)) _ _ _ (Nat.le_refl _)) _ _ _ (Nat.le_refl _))⟩
    · have HK := Lib.hid (of_decide_eq_true hok)
      have OK := Lib.hid hok
      have y0 := errZ.cell enV_len (i := 0) (j := 0) rfl rfl
      have y1 := errZ.cell enV_len (i := 0) (j := 1) rfl rfl
      have y2 := errZ.cell enV_len (i := 0) (j := 2) rfl rfl
      have y3 := errZ.cell enV_len (i := 0) (j := 3) rfl rfl
      have y4 := errZ.cell enV_len (i := 0) (j := 4) rfl rfl
      have y5 := errZ.cell enV_len (i := 0) (j := 5) rfl rfl
      have y6 := errZ.cell enV_len (i := 0) (j := 6) rfl rfl
      simp only [Nat.zero_mul, Nat.zero_add] at y0 y1 y2 y3 y4 y5 y6
      clear hok
      go_wp2_with fail
      refine (l21Text_any (⟨0, ⟨#[]⟩, ⟨#[]⟩, 0, 0, 0, false⟩ : EN) _ HK.out).mono ?_
      rintro e w6 ⟨rfl, b6⟩
      replace errZ := errZ.below b6
      replace orrZ := orrZ.below b6
      replace nrrZ := nrrZ.below b6
      replace tZ := below_trans tZ b6
      clear y0 y1 y2 y3 y4 y5 y6 b6
      by_cases hse : senS (⟨0, ⟨#[]⟩, ⟨#[]⟩, 0, 0, 0, false⟩ : EN) = s
      · have E := Lib.hid (PX.out.trans (if_pos ⟨OK.out, hse⟩))
        have hq1 := bytes_eq_t hse
        have hq2 := lt_tn hse
        clear hse
        have y0 := errZ.cell enV_len (i := 0) (j := 0) rfl rfl
        have y1 := errZ.cell enV_len (i := 0) (j := 1) rfl rfl
        have y2 := errZ.cell enV_len (i := 0) (j := 2) rfl rfl
        have y3 := errZ.cell enV_len (i := 0) (j := 3) rfl rfl
        have y4 := errZ.cell enV_len (i := 0) (j := 4) rfl rfl
        have y5 := errZ.cell enV_len (i := 0) (j := 5) rfl rfl
        have y6 := errZ.cell enV_len (i := 0) (j := 6) rfl rfl
        simp only [Nat.zero_mul, Nat.zero_add] at y0 y1 y2 y3 y4 y5 y6
        have z0 := orrZ.cell enV_len (i := 0) (j := 0) rfl rfl
        have z1 := orrZ.cell enV_len (i := 0) (j := 1) rfl rfl
        have z2 := orrZ.cell enV_len (i := 0) (j := 2) rfl rfl
        have z3 := orrZ.cell enV_len (i := 0) (j := 3) rfl rfl
        have z4 := orrZ.cell enV_len (i := 0) (j := 4) rfl rfl
        have z5 := orrZ.cell enV_len (i := 0) (j := 5) rfl rfl
        have z6 := orrZ.cell enV_len (i := 0) (j := 6) rfl rfl
        simp only [Nat.zero_mul, Nat.zero_add] at z0 z1 z2 z3 z4 z5 z6
        have f0 := orrZ.frozen 0
        have f1 := orrZ.frozen 1
        have f2 := orrZ.frozen 2
        have f3 := orrZ.frozen 3
        have f4 := orrZ.frozen 4
        have f5 := orrZ.frozen 5
        have f6 := orrZ.frozen 6
        go_wp2
        exact bodyPost_ret (v := .tuple #[.agg #[.int .i64 0, .string ⟨#[]⟩, .string ⟨#[]⟩, .int .i64 0, .int .i64 0, .int .i64 0, .bool false], .bool true]) (by simp [results, Tryz.results29, go_sem, z0, z1, z2, z3, z4, z5, z6]) rfl ⟨by rw [E.out], by exact (below_setCell (below_setCell (below_setCell (below_setCell (below_setCell (below_setCell (below_setCell tZ _ _ _ (Nat.le_refl _)) _ _ _ (Nat.le_refl _)) _ _ _ (Nat.le_refl _)) _ _ _ (Nat.le_refl _)) _ _ _ (Nat.le_refl _)) _ _ _ (Nat.le_refl _)) _ _ _ (Nat.le_refl _))⟩
      · have E := Lib.hid (PX.out.trans (if_neg (fun e => hse e.2)))
        have hq1 := bytes_eq_f hse
        have hq2 := lt_fn hse
        clear hse
        have n0 := nrrZ.cell enV_len (i := 0) (j := 0) rfl rfl
        have n1 := nrrZ.cell enV_len (i := 0) (j := 1) rfl rfl
        have n2 := nrrZ.cell enV_len (i := 0) (j := 2) rfl rfl
        have n3 := nrrZ.cell enV_len (i := 0) (j := 3) rfl rfl
        have n4 := nrrZ.cell enV_len (i := 0) (j := 4) rfl rfl
        have n5 := nrrZ.cell enV_len (i := 0) (j := 5) rfl rfl
        have n6 := nrrZ.cell enV_len (i := 0) (j := 6) rfl rfl
        simp only [Nat.zero_mul, Nat.zero_add] at n0 n1 n2 n3 n4 n5 n6
        have z0 := orrZ.cell enV_len (i := 0) (j := 0) rfl rfl
        have z1 := orrZ.cell enV_len (i := 0) (j := 1) rfl rfl
        have z2 := orrZ.cell enV_len (i := 0) (j := 2) rfl rfl
        have z3 := orrZ.cell enV_len (i := 0) (j := 3) rfl rfl
        have z4 := orrZ.cell enV_len (i := 0) (j := 4) rfl rfl
        have z5 := orrZ.cell enV_len (i := 0) (j := 5) rfl rfl
        have z6 := orrZ.cell enV_len (i := 0) (j := 6) rfl rfl
        simp only [Nat.zero_mul, Nat.zero_add] at z0 z1 z2 z3 z4 z5 z6
        have f0 := orrZ.frozen 0
        have f1 := orrZ.frozen 1
        have f2 := orrZ.frozen 2
        have f3 := orrZ.frozen 3
        have f4 := orrZ.frozen 4
        have f5 := orrZ.frozen 5
        have f6 := orrZ.frozen 6
        go_wp2
        exact bodyPost_ret (v := .tuple #[.agg #[.int .i64 0, .string ⟨#[]⟩, .string ⟨#[]⟩, .int .i64 0, .int .i64 0, .int .i64 0, .bool false], .bool false]) (by simp [results, Tryz.results29, go_sem, z0, z1, z2, z3, z4, z5, z6]) rfl ⟨by rw [E.out], by exact (below_setCell (below_setCell (below_setCell (below_setCell (below_setCell (below_setCell (below_setCell tZ _ _ _ (Nat.le_refl _)) _ _ _ (Nat.le_refl _)) _ _ _ (Nat.le_refl _)) _ _ _ (Nat.le_refl _)) _ _ _ (Nat.le_refl _)) _ _ _ (Nat.le_refl _)) _ _ _ (Nat.le_refl _))⟩
  have g10 : 10 ≤ (q : Int) := by omega
  have i1 : 1 < (q : Int) := by omega
  have i2 : 2 < (q : Int) := by omega
  have i3 : 3 < (q : Int) := by omega
  have i5 : 5 < (q : Int) := by omega
  have i7 : 7 < (q : Int) := by omega
  have i8 : 8 < (q : Int) := by omega
  have i9 : 9 < (q : Int) := by omega
  obtain ⟨b', oo', p1, hb', hp1, cp1⟩ := RD.out.st (i := 1) (by omega)
  injection hb' with hb'
  injection hb' with hb1 hb2
  subst hb1 hb2
  have zp1 := HZ.out p1 (List.mem_of_getElem? hp1)
  have Xp1 := Lib.hid (wdI_at hp1)
  clear hp1
  obtain ⟨b', oo', p3, hb', hp3, cp3⟩ := RD.out.st (i := 3) (by omega)
  injection hb' with hb'
  injection hb' with hb1 hb2
  subst hb1 hb2
  have zp3 := HZ.out p3 (List.mem_of_getElem? hp3)
  have Xp3 := Lib.hid (wdI_at hp3)
  clear hp3
  by_cases e1 : p1 = (⟨#[99, 104, 97, 105, 114]⟩ : ByteArray)
  · have q1 := lt_t [99, 104, 97, 105, 114] (⟨#[99, 104, 97, 105, 114]⟩ : ByteArray) (by simp) e1
    have em : p1 ≠ (⟨#[109, 111, 116, 105, 111, 110]⟩ : ByteArray) := fun e => lits.1 (e1.symm.trans e)
    have qm := lt_f [109, 111, 116, 105, 111, 110] (⟨#[109, 111, 116, 105, 111, 110]⟩ : ByteArray) (by simp) em
    by_cases e3 : p3 = (⟨#[114, 117, 108, 101, 100]⟩ : ByteArray)
    · have q3 := lt_t [114, 117, 108, 101, 100] (⟨#[114, 117, 108, 101, 100]⟩ : ByteArray) (by simp) e3
      obtain ⟨b', oo', p2, hb', hp2, cp2⟩ := RD.out.st (i := 2) (by omega)
      injection hb' with hb'
      injection hb' with hb1 hb2
      subst hb1 hb2
      have zp2 := HZ.out p2 (List.mem_of_getElem? hp2)
      have Xp2 := Lib.hid (wdI_at hp2)
      clear hp2
      obtain ⟨b', oo', p7, hb', hp7, cp7⟩ := RD.out.st (i := 7) (by omega)
      injection hb' with hb'
      injection hb' with hb1 hb2
      subst hb1 hb2
      have zp7 := HZ.out p7 (List.mem_of_getElem? hp7)
      have Xp7 := Lib.hid (wdI_at hp7)
      clear hp7
      obtain ⟨b', oo', p8, hb', hp8, cp8⟩ := RD.out.st (i := 8) (by omega)
      injection hb' with hb'
      injection hb' with hb1 hb2
      subst hb1 hb2
      have zp8 := HZ.out p8 (List.mem_of_getElem? hp8)
      have Xp8 := Lib.hid (wdI_at hp8)
      clear hp8
      have hx := Lib.hid ((candE_4 (fun h => by have := h.1; have := hl'.out; omega) (fun h => by have := h.1; have := hl'.out; omega) (fun h => by have := h.1; have := hl'.out; omega) (fun h => by have := h.1; have := hl'.out; omega) ⟨by have := hl'.out; omega, Xp1.out.trans e1, Xp3.out.trans e3⟩).trans (by rw [Xp2.out, Xp7.out, Xp8.out, ← eq_in]))
      clear e1 e3 em
      have SM : Hid (∀ w2, Calls Tryz.prog 53 #[.string p2] w2 fun e w' => e = .returned (.string (smallS p2)) ∧ Below w2.heap.size w2 w') := fun w2 => l21Small_any p2 w2 zp2
      have zs := small_sz p2
      have hm1 : (smallS p2).size ≤ maxLen := by simp only [maxLen]; omega
      have hm2 : p7.size ≤ maxLen := by simp only [maxLen]; omega
      have PX : Hid (parE s = if enOK (⟨5, smallS p2, p7, 0, 0, 0, p8.toList == [105, 110]⟩ : EN) = true ∧ senS (⟨5, smallS p2, p7, 0, 0, 0, p8.toList == [105, 110]⟩ : EN) = s then ((⟨5, smallS p2, p7, 0, 0, 0, p8.toList == [105, 110]⟩ : EN), true) else (⟨0, ⟨#[]⟩, ⟨#[]⟩, 0, 0, 0, false⟩, false)) := by have h9 := PE.out; rw [hx.out] at h9; exact h9
      go_upto_region 16 with fail
      go_region_law (first
        | (go_simp
           go_at_call 53
           (with_reducible refine (SM.out _).mono ?_)
           rintro e wa ⟨rfl, ba⟩
           have mp7 := cell_below ba cp7
           have mp8 := cell_below ba cp8
           have errA := (by first | exact err.drew.below ba | exact err.below ba : Own enV 7 wa g 27 (some ⟨g, 0, none⟩) 1 1 [⟨0, ⟨#[]⟩, ⟨#[]⟩, 0, 0, 0, false⟩])
           have orrA := (by first | exact orr.drew.below ba | exact orr.below ba : Own enV 7 wa w.heap.size 27 (some ⟨w.heap.size, 0, none⟩) 1 1 [⟨0, ⟨#[]⟩, ⟨#[]⟩, 0, 0, 0, false⟩])
           have nrrA := (by first | exact nrr.drew.below ba | exact nrr.below ba : Own enV 7 wa (w.heap.size + 1) 27 (some ⟨w.heap.size + 1, 0, none⟩) 1 1 [⟨0, ⟨#[]⟩, ⟨#[]⟩, 0, 0, 0, false⟩])
           have tA := (by first | exact below_trans t3.drew ba | exact below_trans t3 ba : Below w.heap.size w wa)
           have y0 := errA.cell enV_len (i := 0) (j := 0) rfl rfl
           have y1 := errA.cell enV_len (i := 0) (j := 1) rfl rfl
           have y2 := errA.cell enV_len (i := 0) (j := 2) rfl rfl
           have y3 := errA.cell enV_len (i := 0) (j := 3) rfl rfl
           have y4 := errA.cell enV_len (i := 0) (j := 4) rfl rfl
           have y5 := errA.cell enV_len (i := 0) (j := 5) rfl rfl
           have y6 := errA.cell enV_len (i := 0) (j := 6) rfl rfl
           simp only [Nat.zero_mul, Nat.zero_add] at y0 y1 y2 y3 y4 y5 y6
           have f0 := errA.frozen 0
           have f1 := errA.frozen 1
           have f2 := errA.frozen 2
           have f3 := errA.frozen 3
           have f4 := errA.frozen 4
           have f5 := errA.frozen 5
           have f6 := errA.frozen 6))
      all_goals
        go_wp2_with fail
        have bY : Below g wa (putCells wa g 0 (enV (⟨5, smallS p2, p7, 0, 0, 0, p8.toList == [105, 110]⟩ : EN))) := below_puts (enV (⟨5, smallS p2, p7, 0, 0, 0, p8.toList == [105, 110]⟩ : EN)) 0 (Below.refl g wa) (Nat.le_refl _)
        have errY := (errA.puts enV_len 0 (⟨5, smallS p2, p7, 0, 0, 0, p8.toList == [105, 110]⟩ : EN) (by omega)).1
        rw [Nat.zero_mul] at errY
        have orrY := orrA.put_below bY (fun k hk => by cases hk; exact HGo.out)
        have nrrY := nrrA.put_below bY (fun k hk => by cases hk; exact HGn.out)
        have tY : Below w.heap.size w (putCells wa g 0 (enV (⟨5, smallS p2, p7, 0, 0, 0, p8.toList == [105, 110]⟩ : EN))) := below_puts (enV (⟨5, smallS p2, p7, 0, 0, 0, p8.toList == [105, 110]⟩ : EN)) 0 tA (Nat.le_of_lt HGo.out)
        clear bY
        refine (l21One_any (⟨5, smallS p2, p7, 0, 0, 0, p8.toList == [105, 110]⟩ : EN) _ hm1 hm2).mono ?_
        rintro e w5 ⟨rfl, b5⟩
        have errZ := errY.below b5
        have orrZ := orrY.below b5
        have nrrZ := nrrY.below b5
        have tZ := below_trans tY b5
        clear errY orrY nrrY tY b5
        cases hok : enOK (⟨5, smallS p2, p7, 0, 0, 0, p8.toList == [105, 110]⟩ : EN)
        · have E := Lib.hid (PX.out.trans (if_neg (by rw [hok]; exact fun e => by cases e.1)))
          have n0 := nrrZ.cell enV_len (i := 0) (j := 0) rfl rfl
          have n1 := nrrZ.cell enV_len (i := 0) (j := 1) rfl rfl
          have n2 := nrrZ.cell enV_len (i := 0) (j := 2) rfl rfl
          have n3 := nrrZ.cell enV_len (i := 0) (j := 3) rfl rfl
          have n4 := nrrZ.cell enV_len (i := 0) (j := 4) rfl rfl
          have n5 := nrrZ.cell enV_len (i := 0) (j := 5) rfl rfl
          have n6 := nrrZ.cell enV_len (i := 0) (j := 6) rfl rfl
          simp only [Nat.zero_mul, Nat.zero_add] at n0 n1 n2 n3 n4 n5 n6
          have z0 := orrZ.cell enV_len (i := 0) (j := 0) rfl rfl
          have z1 := orrZ.cell enV_len (i := 0) (j := 1) rfl rfl
          have z2 := orrZ.cell enV_len (i := 0) (j := 2) rfl rfl
          have z3 := orrZ.cell enV_len (i := 0) (j := 3) rfl rfl
          have z4 := orrZ.cell enV_len (i := 0) (j := 4) rfl rfl
          have z5 := orrZ.cell enV_len (i := 0) (j := 5) rfl rfl
          have z6 := orrZ.cell enV_len (i := 0) (j := 6) rfl rfl
          simp only [Nat.zero_mul, Nat.zero_add] at z0 z1 z2 z3 z4 z5 z6
          have f0 := orrZ.frozen 0
          have f1 := orrZ.frozen 1
          have f2 := orrZ.frozen 2
          have f3 := orrZ.frozen 3
          have f4 := orrZ.frozen 4
          have f5 := orrZ.frozen 5
          have f6 := orrZ.frozen 6
          go_wp2
          exact bodyPost_ret (v := .tuple #[.agg #[.int .i64 0, .string ⟨#[]⟩, .string ⟨#[]⟩, .int .i64 0, .int .i64 0, .int .i64 0, .bool false], .bool false]) (by simp [results, Tryz.results29, go_sem, z0, z1, z2, z3, z4, z5, z6]) rfl ⟨by rw [E.out], by exact (below_setCell (below_setCell (below_setCell (below_setCell (below_setCell (below_setCell (below_setCell tZ _ _ _ (Nat.le_refl _)) _ _ _ (Nat.le_refl _)) _ _ _ (Nat.le_refl _)) _ _ _ (Nat.le_refl _)) _ _ _ (Nat.le_refl _)) _ _ _ (Nat.le_refl _)) _ _ _ (Nat.le_refl _))⟩
        · have HK := Lib.hid (of_decide_eq_true hok)
          have OK := Lib.hid hok
          have y0 := errZ.cell enV_len (i := 0) (j := 0) rfl rfl
          have y1 := errZ.cell enV_len (i := 0) (j := 1) rfl rfl
          have y2 := errZ.cell enV_len (i := 0) (j := 2) rfl rfl
          have y3 := errZ.cell enV_len (i := 0) (j := 3) rfl rfl
          have y4 := errZ.cell enV_len (i := 0) (j := 4) rfl rfl
          have y5 := errZ.cell enV_len (i := 0) (j := 5) rfl rfl
          have y6 := errZ.cell enV_len (i := 0) (j := 6) rfl rfl
          simp only [Nat.zero_mul, Nat.zero_add] at y0 y1 y2 y3 y4 y5 y6
          clear hok
          go_wp2_with fail
          refine (l21Text_any (⟨5, smallS p2, p7, 0, 0, 0, p8.toList == [105, 110]⟩ : EN) _ HK.out).mono ?_
          rintro e w6 ⟨rfl, b6⟩
          replace errZ := errZ.below b6
          replace orrZ := orrZ.below b6
          replace nrrZ := nrrZ.below b6
          replace tZ := below_trans tZ b6
          clear y0 y1 y2 y3 y4 y5 y6 b6
          by_cases hse : senS (⟨5, smallS p2, p7, 0, 0, 0, p8.toList == [105, 110]⟩ : EN) = s
          · have E := Lib.hid (PX.out.trans (if_pos ⟨OK.out, hse⟩))
            have hq1 := bytes_eq_t hse
            have hq2 := lt_tn hse
            clear hse
            have y0 := errZ.cell enV_len (i := 0) (j := 0) rfl rfl
            have y1 := errZ.cell enV_len (i := 0) (j := 1) rfl rfl
            have y2 := errZ.cell enV_len (i := 0) (j := 2) rfl rfl
            have y3 := errZ.cell enV_len (i := 0) (j := 3) rfl rfl
            have y4 := errZ.cell enV_len (i := 0) (j := 4) rfl rfl
            have y5 := errZ.cell enV_len (i := 0) (j := 5) rfl rfl
            have y6 := errZ.cell enV_len (i := 0) (j := 6) rfl rfl
            simp only [Nat.zero_mul, Nat.zero_add] at y0 y1 y2 y3 y4 y5 y6
            have z0 := orrZ.cell enV_len (i := 0) (j := 0) rfl rfl
            have z1 := orrZ.cell enV_len (i := 0) (j := 1) rfl rfl
            have z2 := orrZ.cell enV_len (i := 0) (j := 2) rfl rfl
            have z3 := orrZ.cell enV_len (i := 0) (j := 3) rfl rfl
            have z4 := orrZ.cell enV_len (i := 0) (j := 4) rfl rfl
            have z5 := orrZ.cell enV_len (i := 0) (j := 5) rfl rfl
            have z6 := orrZ.cell enV_len (i := 0) (j := 6) rfl rfl
            simp only [Nat.zero_mul, Nat.zero_add] at z0 z1 z2 z3 z4 z5 z6
            have f0 := orrZ.frozen 0
            have f1 := orrZ.frozen 1
            have f2 := orrZ.frozen 2
            have f3 := orrZ.frozen 3
            have f4 := orrZ.frozen 4
            have f5 := orrZ.frozen 5
            have f6 := orrZ.frozen 6
            go_wp2
            exact bodyPost_ret (v := .tuple #[.agg #[.int .i64 5, .string (smallS p2), .string p7, .int .i64 0, .int .i64 0, .int .i64 0, .bool (p8.toList == [105, 110])], .bool true]) (by simp [results, Tryz.results29, go_sem, z0, z1, z2, z3, z4, z5, z6]) rfl ⟨by rw [E.out], by exact (below_setCell (below_setCell (below_setCell (below_setCell (below_setCell (below_setCell (below_setCell tZ _ _ _ (Nat.le_refl _)) _ _ _ (Nat.le_refl _)) _ _ _ (Nat.le_refl _)) _ _ _ (Nat.le_refl _)) _ _ _ (Nat.le_refl _)) _ _ _ (Nat.le_refl _)) _ _ _ (Nat.le_refl _))⟩
          · have E := Lib.hid (PX.out.trans (if_neg (fun e => hse e.2)))
            have hq1 := bytes_eq_f hse
            have hq2 := lt_fn hse
            clear hse
            have n0 := nrrZ.cell enV_len (i := 0) (j := 0) rfl rfl
            have n1 := nrrZ.cell enV_len (i := 0) (j := 1) rfl rfl
            have n2 := nrrZ.cell enV_len (i := 0) (j := 2) rfl rfl
            have n3 := nrrZ.cell enV_len (i := 0) (j := 3) rfl rfl
            have n4 := nrrZ.cell enV_len (i := 0) (j := 4) rfl rfl
            have n5 := nrrZ.cell enV_len (i := 0) (j := 5) rfl rfl
            have n6 := nrrZ.cell enV_len (i := 0) (j := 6) rfl rfl
            simp only [Nat.zero_mul, Nat.zero_add] at n0 n1 n2 n3 n4 n5 n6
            have z0 := orrZ.cell enV_len (i := 0) (j := 0) rfl rfl
            have z1 := orrZ.cell enV_len (i := 0) (j := 1) rfl rfl
            have z2 := orrZ.cell enV_len (i := 0) (j := 2) rfl rfl
            have z3 := orrZ.cell enV_len (i := 0) (j := 3) rfl rfl
            have z4 := orrZ.cell enV_len (i := 0) (j := 4) rfl rfl
            have z5 := orrZ.cell enV_len (i := 0) (j := 5) rfl rfl
            have z6 := orrZ.cell enV_len (i := 0) (j := 6) rfl rfl
            simp only [Nat.zero_mul, Nat.zero_add] at z0 z1 z2 z3 z4 z5 z6
            have f0 := orrZ.frozen 0
            have f1 := orrZ.frozen 1
            have f2 := orrZ.frozen 2
            have f3 := orrZ.frozen 3
            have f4 := orrZ.frozen 4
            have f5 := orrZ.frozen 5
            have f6 := orrZ.frozen 6
            go_wp2
            exact bodyPost_ret (v := .tuple #[.agg #[.int .i64 0, .string ⟨#[]⟩, .string ⟨#[]⟩, .int .i64 0, .int .i64 0, .int .i64 0, .bool false], .bool false]) (by simp [results, Tryz.results29, go_sem, z0, z1, z2, z3, z4, z5, z6]) rfl ⟨by rw [E.out], by exact (below_setCell (below_setCell (below_setCell (below_setCell (below_setCell (below_setCell (below_setCell tZ _ _ _ (Nat.le_refl _)) _ _ _ (Nat.le_refl _)) _ _ _ (Nat.le_refl _)) _ _ _ (Nat.le_refl _)) _ _ _ (Nat.le_refl _)) _ _ _ (Nat.le_refl _)) _ _ _ (Nat.le_refl _))⟩
    · have q3 := lt_f [114, 117, 108, 101, 100] (⟨#[114, 117, 108, 101, 100]⟩ : ByteArray) (by simp) e3
      have hx := Lib.hid (candE_6 (fun h => by have := h.1; have := hl'.out; omega) (fun h => by have := h.1; have := hl'.out; omega) (fun h => by have := h.1; have := hl'.out; omega) (fun h => by have := h.1; have := hl'.out; omega) (fun h => e3 (Xp3.out.symm.trans h.2.2)) (fun h => em (Xp1.out.symm.trans h.2)))
      clear e1 e3 em
      have hm1 : (⟨#[]⟩ : ByteArray).size ≤ maxLen := Nat.zero_le _
      have hm2 : (⟨#[]⟩ : ByteArray).size ≤ maxLen := Nat.zero_le _
      have PX : Hid (parE s = if enOK (⟨0, ⟨#[]⟩, ⟨#[]⟩, 0, 0, 0, false⟩ : EN) = true ∧ senS (⟨0, ⟨#[]⟩, ⟨#[]⟩, 0, 0, 0, false⟩ : EN) = s then ((⟨0, ⟨#[]⟩, ⟨#[]⟩, 0, 0, 0, false⟩ : EN), true) else (⟨0, ⟨#[]⟩, ⟨#[]⟩, 0, 0, 0, false⟩, false)) := by have h9 := PE.out; rw [hx.out] at h9; exact h9
      have errY := err
      have orrY := orr
      have nrrY := nrr
      have tY := t3
      have y0 := err.cell enV_len (i := 0) (j := 0) rfl rfl
      have y1 := err.cell enV_len (i := 0) (j := 1) rfl rfl
      have y2 := err.cell enV_len (i := 0) (j := 2) rfl rfl
      have y3 := err.cell enV_len (i := 0) (j := 3) rfl rfl
      have y4 := err.cell enV_len (i := 0) (j := 4) rfl rfl
      have y5 := err.cell enV_len (i := 0) (j := 5) rfl rfl
      have y6 := err.cell enV_len (i := 0) (j := 6) rfl rfl
      simp only [Nat.zero_mul, Nat.zero_add] at y0 y1 y2 y3 y4 y5 y6
      go_wp2_with fail
      refine (l21One_any (⟨0, ⟨#[]⟩, ⟨#[]⟩, 0, 0, 0, false⟩ : EN) _ hm1 hm2).mono ?_
      rintro e w5 ⟨rfl, b5⟩
      have errZ := errY.below b5
      have orrZ := orrY.below b5
      have nrrZ := nrrY.below b5
      have tZ := below_trans tY b5
      clear errY orrY nrrY tY b5
      cases hok : enOK (⟨0, ⟨#[]⟩, ⟨#[]⟩, 0, 0, 0, false⟩ : EN)
      · have E := Lib.hid (PX.out.trans (if_neg (by rw [hok]; exact fun e => by cases e.1)))
        have n0 := nrrZ.cell enV_len (i := 0) (j := 0) rfl rfl
        have n1 := nrrZ.cell enV_len (i := 0) (j := 1) rfl rfl
        have n2 := nrrZ.cell enV_len (i := 0) (j := 2) rfl rfl
        have n3 := nrrZ.cell enV_len (i := 0) (j := 3) rfl rfl
        have n4 := nrrZ.cell enV_len (i := 0) (j := 4) rfl rfl
        have n5 := nrrZ.cell enV_len (i := 0) (j := 5) rfl rfl
        have n6 := nrrZ.cell enV_len (i := 0) (j := 6) rfl rfl
        simp only [Nat.zero_mul, Nat.zero_add] at n0 n1 n2 n3 n4 n5 n6
        have z0 := orrZ.cell enV_len (i := 0) (j := 0) rfl rfl
        have z1 := orrZ.cell enV_len (i := 0) (j := 1) rfl rfl
        have z2 := orrZ.cell enV_len (i := 0) (j := 2) rfl rfl
        have z3 := orrZ.cell enV_len (i := 0) (j := 3) rfl rfl
        have z4 := orrZ.cell enV_len (i := 0) (j := 4) rfl rfl
        have z5 := orrZ.cell enV_len (i := 0) (j := 5) rfl rfl
        have z6 := orrZ.cell enV_len (i := 0) (j := 6) rfl rfl
        simp only [Nat.zero_mul, Nat.zero_add] at z0 z1 z2 z3 z4 z5 z6
        have f0 := orrZ.frozen 0
        have f1 := orrZ.frozen 1
        have f2 := orrZ.frozen 2
        have f3 := orrZ.frozen 3
        have f4 := orrZ.frozen 4
        have f5 := orrZ.frozen 5
        have f6 := orrZ.frozen 6
        go_wp2
        exact bodyPost_ret (v := .tuple #[.agg #[.int .i64 0, .string ⟨#[]⟩, .string ⟨#[]⟩, .int .i64 0, .int .i64 0, .int .i64 0, .bool false], .bool false]) (by simp [results, Tryz.results29, go_sem, z0, z1, z2, z3, z4, z5, z6]) rfl ⟨by rw [E.out], by exact (below_setCell (below_setCell (below_setCell (below_setCell (below_setCell (below_setCell (below_setCell tZ _ _ _ (Nat.le_refl _)) _ _ _ (Nat.le_refl _)) _ _ _ (Nat.le_refl _)) _ _ _ (Nat.le_refl _)) _ _ _ (Nat.le_refl _)) _ _ _ (Nat.le_refl _)) _ _ _ (Nat.le_refl _))⟩
      · have HK := Lib.hid (of_decide_eq_true hok)
        have OK := Lib.hid hok
        have y0 := errZ.cell enV_len (i := 0) (j := 0) rfl rfl
        have y1 := errZ.cell enV_len (i := 0) (j := 1) rfl rfl
        have y2 := errZ.cell enV_len (i := 0) (j := 2) rfl rfl
        have y3 := errZ.cell enV_len (i := 0) (j := 3) rfl rfl
        have y4 := errZ.cell enV_len (i := 0) (j := 4) rfl rfl
        have y5 := errZ.cell enV_len (i := 0) (j := 5) rfl rfl
        have y6 := errZ.cell enV_len (i := 0) (j := 6) rfl rfl
        simp only [Nat.zero_mul, Nat.zero_add] at y0 y1 y2 y3 y4 y5 y6
        clear hok
        go_wp2_with fail
        refine (l21Text_any (⟨0, ⟨#[]⟩, ⟨#[]⟩, 0, 0, 0, false⟩ : EN) _ HK.out).mono ?_
        rintro e w6 ⟨rfl, b6⟩
        replace errZ := errZ.below b6
        replace orrZ := orrZ.below b6
        replace nrrZ := nrrZ.below b6
        replace tZ := below_trans tZ b6
        clear y0 y1 y2 y3 y4 y5 y6 b6
        by_cases hse : senS (⟨0, ⟨#[]⟩, ⟨#[]⟩, 0, 0, 0, false⟩ : EN) = s
        · have E := Lib.hid (PX.out.trans (if_pos ⟨OK.out, hse⟩))
          have hq1 := bytes_eq_t hse
          have hq2 := lt_tn hse
          clear hse
          have y0 := errZ.cell enV_len (i := 0) (j := 0) rfl rfl
          have y1 := errZ.cell enV_len (i := 0) (j := 1) rfl rfl
          have y2 := errZ.cell enV_len (i := 0) (j := 2) rfl rfl
          have y3 := errZ.cell enV_len (i := 0) (j := 3) rfl rfl
          have y4 := errZ.cell enV_len (i := 0) (j := 4) rfl rfl
          have y5 := errZ.cell enV_len (i := 0) (j := 5) rfl rfl
          have y6 := errZ.cell enV_len (i := 0) (j := 6) rfl rfl
          simp only [Nat.zero_mul, Nat.zero_add] at y0 y1 y2 y3 y4 y5 y6
          have z0 := orrZ.cell enV_len (i := 0) (j := 0) rfl rfl
          have z1 := orrZ.cell enV_len (i := 0) (j := 1) rfl rfl
          have z2 := orrZ.cell enV_len (i := 0) (j := 2) rfl rfl
          have z3 := orrZ.cell enV_len (i := 0) (j := 3) rfl rfl
          have z4 := orrZ.cell enV_len (i := 0) (j := 4) rfl rfl
          have z5 := orrZ.cell enV_len (i := 0) (j := 5) rfl rfl
          have z6 := orrZ.cell enV_len (i := 0) (j := 6) rfl rfl
          simp only [Nat.zero_mul, Nat.zero_add] at z0 z1 z2 z3 z4 z5 z6
          have f0 := orrZ.frozen 0
          have f1 := orrZ.frozen 1
          have f2 := orrZ.frozen 2
          have f3 := orrZ.frozen 3
          have f4 := orrZ.frozen 4
          have f5 := orrZ.frozen 5
          have f6 := orrZ.frozen 6
          go_wp2
          exact bodyPost_ret (v := .tuple #[.agg #[.int .i64 0, .string ⟨#[]⟩, .string ⟨#[]⟩, .int .i64 0, .int .i64 0, .int .i64 0, .bool false], .bool true]) (by simp [results, Tryz.results29, go_sem, z0, z1, z2, z3, z4, z5, z6]) rfl ⟨by rw [E.out], by exact (below_setCell (below_setCell (below_setCell (below_setCell (below_setCell (below_setCell (below_setCell tZ _ _ _ (Nat.le_refl _)) _ _ _ (Nat.le_refl _)) _ _ _ (Nat.le_refl _)) _ _ _ (Nat.le_refl _)) _ _ _ (Nat.le_refl _)) _ _ _ (Nat.le_refl _)) _ _ _ (Nat.le_refl _))⟩
        · have E := Lib.hid (PX.out.trans (if_neg (fun e => hse e.2)))
          have hq1 := bytes_eq_f hse
          have hq2 := lt_fn hse
          clear hse
          have n0 := nrrZ.cell enV_len (i := 0) (j := 0) rfl rfl
          have n1 := nrrZ.cell enV_len (i := 0) (j := 1) rfl rfl
          have n2 := nrrZ.cell enV_len (i := 0) (j := 2) rfl rfl
          have n3 := nrrZ.cell enV_len (i := 0) (j := 3) rfl rfl
          have n4 := nrrZ.cell enV_len (i := 0) (j := 4) rfl rfl
          have n5 := nrrZ.cell enV_len (i := 0) (j := 5) rfl rfl
          have n6 := nrrZ.cell enV_len (i := 0) (j := 6) rfl rfl
          simp only [Nat.zero_mul, Nat.zero_add] at n0 n1 n2 n3 n4 n5 n6
          have z0 := orrZ.cell enV_len (i := 0) (j := 0) rfl rfl
          have z1 := orrZ.cell enV_len (i := 0) (j := 1) rfl rfl
          have z2 := orrZ.cell enV_len (i := 0) (j := 2) rfl rfl
          have z3 := orrZ.cell enV_len (i := 0) (j := 3) rfl rfl
          have z4 := orrZ.cell enV_len (i := 0) (j := 4) rfl rfl
          have z5 := orrZ.cell enV_len (i := 0) (j := 5) rfl rfl
          have z6 := orrZ.cell enV_len (i := 0) (j := 6) rfl rfl
          simp only [Nat.zero_mul, Nat.zero_add] at z0 z1 z2 z3 z4 z5 z6
          have f0 := orrZ.frozen 0
          have f1 := orrZ.frozen 1
          have f2 := orrZ.frozen 2
          have f3 := orrZ.frozen 3
          have f4 := orrZ.frozen 4
          have f5 := orrZ.frozen 5
          have f6 := orrZ.frozen 6
          go_wp2
          exact bodyPost_ret (v := .tuple #[.agg #[.int .i64 0, .string ⟨#[]⟩, .string ⟨#[]⟩, .int .i64 0, .int .i64 0, .int .i64 0, .bool false], .bool false]) (by simp [results, Tryz.results29, go_sem, z0, z1, z2, z3, z4, z5, z6]) rfl ⟨by rw [E.out], by exact (below_setCell (below_setCell (below_setCell (below_setCell (below_setCell (below_setCell (below_setCell tZ _ _ _ (Nat.le_refl _)) _ _ _ (Nat.le_refl _)) _ _ _ (Nat.le_refl _)) _ _ _ (Nat.le_refl _)) _ _ _ (Nat.le_refl _)) _ _ _ (Nat.le_refl _)) _ _ _ (Nat.le_refl _))⟩
  have q1 := lt_f [99, 104, 97, 105, 114] (⟨#[99, 104, 97, 105, 114]⟩ : ByteArray) (by simp) e1
  have em : p1 ≠ (⟨#[109, 111, 116, 105, 111, 110]⟩ : ByteArray) := fun e => HC.out ⟨by have := hl'.out; omega, Xp1.out.trans e⟩
  · have qm := lt_f [109, 111, 116, 105, 111, 110] (⟨#[109, 111, 116, 105, 111, 110]⟩ : ByteArray) (by simp) em
    have hx := Lib.hid (candE_6 (fun h => by have := h.1; have := hl'.out; omega) (fun h => by have := h.1; have := hl'.out; omega) (fun h => by have := h.1; have := hl'.out; omega) (fun h => by have := h.1; have := hl'.out; omega) (fun h => e1 (Xp1.out.symm.trans h.2.1)) (fun h => em (Xp1.out.symm.trans h.2)))
    clear e1 em
    have hm1 : (⟨#[]⟩ : ByteArray).size ≤ maxLen := Nat.zero_le _
    have hm2 : (⟨#[]⟩ : ByteArray).size ≤ maxLen := Nat.zero_le _
    have PX : Hid (parE s = if enOK (⟨0, ⟨#[]⟩, ⟨#[]⟩, 0, 0, 0, false⟩ : EN) = true ∧ senS (⟨0, ⟨#[]⟩, ⟨#[]⟩, 0, 0, 0, false⟩ : EN) = s then ((⟨0, ⟨#[]⟩, ⟨#[]⟩, 0, 0, 0, false⟩ : EN), true) else (⟨0, ⟨#[]⟩, ⟨#[]⟩, 0, 0, 0, false⟩, false)) := by have h9 := PE.out; rw [hx.out] at h9; exact h9
    have errY := err
    have orrY := orr
    have nrrY := nrr
    have tY := t3
    have y0 := err.cell enV_len (i := 0) (j := 0) rfl rfl
    have y1 := err.cell enV_len (i := 0) (j := 1) rfl rfl
    have y2 := err.cell enV_len (i := 0) (j := 2) rfl rfl
    have y3 := err.cell enV_len (i := 0) (j := 3) rfl rfl
    have y4 := err.cell enV_len (i := 0) (j := 4) rfl rfl
    have y5 := err.cell enV_len (i := 0) (j := 5) rfl rfl
    have y6 := err.cell enV_len (i := 0) (j := 6) rfl rfl
    simp only [Nat.zero_mul, Nat.zero_add] at y0 y1 y2 y3 y4 y5 y6
    go_wp2_with fail
    refine (l21One_any (⟨0, ⟨#[]⟩, ⟨#[]⟩, 0, 0, 0, false⟩ : EN) _ hm1 hm2).mono ?_
    rintro e w5 ⟨rfl, b5⟩
    have errZ := errY.below b5
    have orrZ := orrY.below b5
    have nrrZ := nrrY.below b5
    have tZ := below_trans tY b5
    clear errY orrY nrrY tY b5
    cases hok : enOK (⟨0, ⟨#[]⟩, ⟨#[]⟩, 0, 0, 0, false⟩ : EN)
    · have E := Lib.hid (PX.out.trans (if_neg (by rw [hok]; exact fun e => by cases e.1)))
      have n0 := nrrZ.cell enV_len (i := 0) (j := 0) rfl rfl
      have n1 := nrrZ.cell enV_len (i := 0) (j := 1) rfl rfl
      have n2 := nrrZ.cell enV_len (i := 0) (j := 2) rfl rfl
      have n3 := nrrZ.cell enV_len (i := 0) (j := 3) rfl rfl
      have n4 := nrrZ.cell enV_len (i := 0) (j := 4) rfl rfl
      have n5 := nrrZ.cell enV_len (i := 0) (j := 5) rfl rfl
      have n6 := nrrZ.cell enV_len (i := 0) (j := 6) rfl rfl
      simp only [Nat.zero_mul, Nat.zero_add] at n0 n1 n2 n3 n4 n5 n6
      have z0 := orrZ.cell enV_len (i := 0) (j := 0) rfl rfl
      have z1 := orrZ.cell enV_len (i := 0) (j := 1) rfl rfl
      have z2 := orrZ.cell enV_len (i := 0) (j := 2) rfl rfl
      have z3 := orrZ.cell enV_len (i := 0) (j := 3) rfl rfl
      have z4 := orrZ.cell enV_len (i := 0) (j := 4) rfl rfl
      have z5 := orrZ.cell enV_len (i := 0) (j := 5) rfl rfl
      have z6 := orrZ.cell enV_len (i := 0) (j := 6) rfl rfl
      simp only [Nat.zero_mul, Nat.zero_add] at z0 z1 z2 z3 z4 z5 z6
      have f0 := orrZ.frozen 0
      have f1 := orrZ.frozen 1
      have f2 := orrZ.frozen 2
      have f3 := orrZ.frozen 3
      have f4 := orrZ.frozen 4
      have f5 := orrZ.frozen 5
      have f6 := orrZ.frozen 6
      go_wp2
      exact bodyPost_ret (v := .tuple #[.agg #[.int .i64 0, .string ⟨#[]⟩, .string ⟨#[]⟩, .int .i64 0, .int .i64 0, .int .i64 0, .bool false], .bool false]) (by simp [results, Tryz.results29, go_sem, z0, z1, z2, z3, z4, z5, z6]) rfl ⟨by rw [E.out], by exact (below_setCell (below_setCell (below_setCell (below_setCell (below_setCell (below_setCell (below_setCell tZ _ _ _ (Nat.le_refl _)) _ _ _ (Nat.le_refl _)) _ _ _ (Nat.le_refl _)) _ _ _ (Nat.le_refl _)) _ _ _ (Nat.le_refl _)) _ _ _ (Nat.le_refl _)) _ _ _ (Nat.le_refl _))⟩
    · have HK := Lib.hid (of_decide_eq_true hok)
      have OK := Lib.hid hok
      have y0 := errZ.cell enV_len (i := 0) (j := 0) rfl rfl
      have y1 := errZ.cell enV_len (i := 0) (j := 1) rfl rfl
      have y2 := errZ.cell enV_len (i := 0) (j := 2) rfl rfl
      have y3 := errZ.cell enV_len (i := 0) (j := 3) rfl rfl
      have y4 := errZ.cell enV_len (i := 0) (j := 4) rfl rfl
      have y5 := errZ.cell enV_len (i := 0) (j := 5) rfl rfl
      have y6 := errZ.cell enV_len (i := 0) (j := 6) rfl rfl
      simp only [Nat.zero_mul, Nat.zero_add] at y0 y1 y2 y3 y4 y5 y6
      clear hok
      go_wp2_with fail
      refine (l21Text_any (⟨0, ⟨#[]⟩, ⟨#[]⟩, 0, 0, 0, false⟩ : EN) _ HK.out).mono ?_
      rintro e w6 ⟨rfl, b6⟩
      replace errZ := errZ.below b6
      replace orrZ := orrZ.below b6
      replace nrrZ := nrrZ.below b6
      replace tZ := below_trans tZ b6
      clear y0 y1 y2 y3 y4 y5 y6 b6
      by_cases hse : senS (⟨0, ⟨#[]⟩, ⟨#[]⟩, 0, 0, 0, false⟩ : EN) = s
      · have E := Lib.hid (PX.out.trans (if_pos ⟨OK.out, hse⟩))
        have hq1 := bytes_eq_t hse
        have hq2 := lt_tn hse
        clear hse
        have y0 := errZ.cell enV_len (i := 0) (j := 0) rfl rfl
        have y1 := errZ.cell enV_len (i := 0) (j := 1) rfl rfl
        have y2 := errZ.cell enV_len (i := 0) (j := 2) rfl rfl
        have y3 := errZ.cell enV_len (i := 0) (j := 3) rfl rfl
        have y4 := errZ.cell enV_len (i := 0) (j := 4) rfl rfl
        have y5 := errZ.cell enV_len (i := 0) (j := 5) rfl rfl
        have y6 := errZ.cell enV_len (i := 0) (j := 6) rfl rfl
        simp only [Nat.zero_mul, Nat.zero_add] at y0 y1 y2 y3 y4 y5 y6
        have z0 := orrZ.cell enV_len (i := 0) (j := 0) rfl rfl
        have z1 := orrZ.cell enV_len (i := 0) (j := 1) rfl rfl
        have z2 := orrZ.cell enV_len (i := 0) (j := 2) rfl rfl
        have z3 := orrZ.cell enV_len (i := 0) (j := 3) rfl rfl
        have z4 := orrZ.cell enV_len (i := 0) (j := 4) rfl rfl
        have z5 := orrZ.cell enV_len (i := 0) (j := 5) rfl rfl
        have z6 := orrZ.cell enV_len (i := 0) (j := 6) rfl rfl
        simp only [Nat.zero_mul, Nat.zero_add] at z0 z1 z2 z3 z4 z5 z6
        have f0 := orrZ.frozen 0
        have f1 := orrZ.frozen 1
        have f2 := orrZ.frozen 2
        have f3 := orrZ.frozen 3
        have f4 := orrZ.frozen 4
        have f5 := orrZ.frozen 5
        have f6 := orrZ.frozen 6
        go_wp2
        exact bodyPost_ret (v := .tuple #[.agg #[.int .i64 0, .string ⟨#[]⟩, .string ⟨#[]⟩, .int .i64 0, .int .i64 0, .int .i64 0, .bool false], .bool true]) (by simp [results, Tryz.results29, go_sem, z0, z1, z2, z3, z4, z5, z6]) rfl ⟨by rw [E.out], by exact (below_setCell (below_setCell (below_setCell (below_setCell (below_setCell (below_setCell (below_setCell tZ _ _ _ (Nat.le_refl _)) _ _ _ (Nat.le_refl _)) _ _ _ (Nat.le_refl _)) _ _ _ (Nat.le_refl _)) _ _ _ (Nat.le_refl _)) _ _ _ (Nat.le_refl _)) _ _ _ (Nat.le_refl _))⟩
      · have E := Lib.hid (PX.out.trans (if_neg (fun e => hse e.2)))
        have hq1 := bytes_eq_f hse
        have hq2 := lt_fn hse
        clear hse
        have n0 := nrrZ.cell enV_len (i := 0) (j := 0) rfl rfl
        have n1 := nrrZ.cell enV_len (i := 0) (j := 1) rfl rfl
        have n2 := nrrZ.cell enV_len (i := 0) (j := 2) rfl rfl
        have n3 := nrrZ.cell enV_len (i := 0) (j := 3) rfl rfl
        have n4 := nrrZ.cell enV_len (i := 0) (j := 4) rfl rfl
        have n5 := nrrZ.cell enV_len (i := 0) (j := 5) rfl rfl
        have n6 := nrrZ.cell enV_len (i := 0) (j := 6) rfl rfl
        simp only [Nat.zero_mul, Nat.zero_add] at n0 n1 n2 n3 n4 n5 n6
        have z0 := orrZ.cell enV_len (i := 0) (j := 0) rfl rfl
        have z1 := orrZ.cell enV_len (i := 0) (j := 1) rfl rfl
        have z2 := orrZ.cell enV_len (i := 0) (j := 2) rfl rfl
        have z3 := orrZ.cell enV_len (i := 0) (j := 3) rfl rfl
        have z4 := orrZ.cell enV_len (i := 0) (j := 4) rfl rfl
        have z5 := orrZ.cell enV_len (i := 0) (j := 5) rfl rfl
        have z6 := orrZ.cell enV_len (i := 0) (j := 6) rfl rfl
        simp only [Nat.zero_mul, Nat.zero_add] at z0 z1 z2 z3 z4 z5 z6
        have f0 := orrZ.frozen 0
        have f1 := orrZ.frozen 1
        have f2 := orrZ.frozen 2
        have f3 := orrZ.frozen 3
        have f4 := orrZ.frozen 4
        have f5 := orrZ.frozen 5
        have f6 := orrZ.frozen 6
        go_wp2
        exact bodyPost_ret (v := .tuple #[.agg #[.int .i64 0, .string ⟨#[]⟩, .string ⟨#[]⟩, .int .i64 0, .int .i64 0, .int .i64 0, .bool false], .bool false]) (by simp [results, Tryz.results29, go_sem, z0, z1, z2, z3, z4, z5, z6]) rfl ⟨by rw [E.out], by exact (below_setCell (below_setCell (below_setCell (below_setCell (below_setCell (below_setCell (below_setCell tZ _ _ _ (Nat.le_refl _)) _ _ _ (Nat.le_refl _)) _ _ _ (Nat.le_refl _)) _ _ _ (Nat.le_refl _)) _ _ _ (Nat.le_refl _)) _ _ _ (Nat.le_refl _)) _ _ _ (Nat.le_refl _))⟩
end Go.Proofs.YthphjncgbaknnaaGreatDoor
