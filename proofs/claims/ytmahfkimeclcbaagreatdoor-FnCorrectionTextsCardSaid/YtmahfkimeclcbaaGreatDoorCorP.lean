/-
  YtmahfkimeclcbaaGreatDoorCorP: ParseCorrection on both sides, by contracts. (Printed by wip/gen/corp.py.)
-/
import Derived.Test.YtmahfkimeclcbaaGreatDoorCorT
import Derived.Test.YtmahfkimeclcbaaGreatDoorRdn
import Derived.Test.YtmahfkimeclcbaaGreatDoorSplit
import Derived.RegionTactic
import Derived.BigRegion
namespace Go.Proofs.YtmahfkimeclcbaaGreatDoor
open Go Go.RowKit Go.Sort
set_option linter.unusedVariables false
set_option linter.unusedSimpArgs false

/-- The first part of a correction's text. -/
def lineP (n : Nat) : ByteArray := (⟨#[108, 105, 110, 101, 32]⟩ : ByteArray) ++ numS n ++ (⟨#[58, 32]⟩ : ByteArray)
theorem lineP_data (n : Nat) : (lineP n).data.toList = [108, 105, 110, 101, 32] ++ Lib.decDigits n ++ [58, 32] := by
  unfold lineP
  rw [← numS_data]
  simp
theorem lineP_size (n : Nat) : (lineP n).size = 7 + (numS n).size := by
  unfold lineP
  simp only [ByteArray.size_append]
  show 5 + _ + 2 = _
  omega
theorem cor_parts {x : CO} (h : tellB x = true) : cutS (corS x) 34 = [lineP x.line.toNat, x.old, ⟨#[32, 116, 111, 32]⟩, x.new, ⟨#[]⟩] := by
  obtain ⟨-, -, h3, h4⟩ := tellB_iff.1 h
  rw [stand_iff] at h3 h4
  have e : corS x = lineP x.line.toNat ++ ⟨#[34]⟩ ++ (x.old ++ ⟨#[34]⟩ ++ ((⟨#[32, 116, 111, 32]⟩ : ByteArray) ++ ⟨#[34]⟩ ++ (x.new ++ ⟨#[34]⟩ ++ ⟨#[]⟩))) := by
    unfold corS lineP
    apply ByteArray.ext
    rw [← Array.toList_inj]
    simp
  rw [e, cutS_app, cutS_app h3, cutS_app, cutS_app h4, cutS_end]
  · decide
  · decide
  · rw [lineP_data]
    simp only [List.mem_append, not_or]
    refine ⟨⟨by decide, ?_⟩, by decide⟩
    rw [← numS_data]
    exact numS_not (by decide)
theorem num_two {n : Nat} (h : n ≤ 11) : (numS n).size ≤ 2 := by
  by_cases h10 : n < 10
  · rw [numS_small h10]; show 1 ≤ 2; omega
  · rw [numS_big h10, numS_small (by omega)]; show 2 ≤ 2; omega
theorem lineP_len {x : CO} (h : tellB x = true) : 8 ≤ (lineP x.line.toNat).size ∧ (lineP x.line.toNat).size ≤ 9 := by
  obtain ⟨h1, -⟩ := tellB_iff.1 h
  rw [inB_iff] at h1
  have := num_two (n := x.line.toNat) (by omega)
  have := numS_pos x.line.toNat
  rw [lineP_size]
  omega
theorem lineP_cut (n : Nat) : (lineP n).extract 5 ((lineP n).size - 2) = numS n := by
  apply ByteArray.ext
  rw [← Array.toList_inj]
  have h1 := Lib.extract_eq (lineP n) 5 ((lineP n).size - 2)
  rw [h1]
  show ((lineP n).data.toList.drop 5).take _ = _
  rw [lineP_size, lineP_data, show 7 + (numS n).size - 2 - 5 = (numS n).size from by omega]
  have e : (numS n).size = (Lib.decDigits n).length := by simp [numS, ByteArray.size]
  rw [e, numS_data]
  simp
theorem lineP_trim (n : Nat) : (⟨(Lib.trimSuffix (⟨(Lib.trimPrefix (lineP n).data.toList [108, 105, 110, 101, 32]).toArray⟩ : ByteArray).data.toList [58, 32]).toArray⟩ : ByteArray) = numS n := by
  rw [lineP_data]
  have e1 : Lib.trimPrefix ([108, 105, 110, 101, 32] ++ Lib.decDigits n ++ [58, 32]) [108, 105, 110, 101, 32] = Lib.decDigits n ++ [58, 32] := by
    unfold Lib.trimPrefix Lib.hasPrefix
    rw [if_pos (by rw [List.append_assoc]; exact List.isPrefixOf_iff_prefix.2 (List.prefix_append _ _))]
    rfl
  have e2 : Lib.trimSuffix (Lib.decDigits n ++ [58, 32]) [58, 32] = Lib.decDigits n := by
    unfold Lib.trimSuffix Lib.hasSuffix
    rw [if_pos (List.isSuffixOf_iff_suffix.2 (List.suffix_append _ _))]
    simp
  rw [e1]
  show (⟨(Lib.trimSuffix (Lib.decDigits n ++ [58, 32]) [58, 32]).toArray⟩ : ByteArray) = _
  rw [e2]
  rfl

/-- What both ParseCorrection give. -/
def candS (s : ByteArray) : CO := ⟨(rdP (((cutS s 34).getD 0 ⟨#[]⟩).extract 5 (((cutS s 34).getD 0 ⟨#[]⟩).size - 2))).1, (cutS s 34).getD 1 ⟨#[]⟩, (cutS s 34).getD 3 ⟨#[]⟩⟩
def parC (s : ByteArray) : CO × Bool := if tellB (candS s) = true ∧ corS (candS s) = s then (candS s, true) else (⟨0, ⟨#[]⟩, ⟨#[]⟩⟩, false)
theorem rdP_num {n : Nat} (h : n ≤ 999999) : rdP (numS n) = ((n : Int), true) := by
  obtain ⟨h1, h2⟩ := rdP_LR (numS n) n h rfl
  exact Prod.ext h1 h2
theorem prI_num {n : Nat} (h : n ≤ 999999) : prI (numS n) = ((n : Int), true) := by
  obtain ⟨h1, h2⟩ := prI_LR (numS n) n h rfl
  exact Prod.ext h1 h2
theorem tell_line {x : CO} (h : tellB x = true) : 0 ≤ x.line ∧ x.line ≤ 11 := by
  obtain ⟨h1, -⟩ := tellB_iff.1 h
  rwa [inB_iff] at h1
theorem candS_of {x : CO} (h : tellB x = true) : candS (corS x) = x := by
  obtain ⟨h0, h1⟩ := tell_line h
  unfold candS
  rw [cor_parts h]
  show (⟨(rdP ((lineP x.line.toNat).extract 5 ((lineP x.line.toNat).size - 2))).1, x.old, x.new⟩ : CO) = x
  rw [lineP_cut, rdP_num (by omega)]
  show (⟨((x.line.toNat : Nat) : Int), x.old, x.new⟩ : CO) = x
  rw [Int.toNat_of_nonneg h0]
theorem parC_hit {s : ByteArray} {x : CO} (h : tellB x = true) (e : corS x = s) : parC s = (x, true) := by
  subst e
  unfold parC
  rw [candS_of h, if_pos ⟨h, rfl⟩]
theorem parC_none {s : ByteArray} (h : ∀ y, tellB y = true → corS y ≠ s) : parC s = (⟨0, ⟨#[]⟩, ⟨#[]⟩⟩, false) := by
  unfold parC
  exact if_neg (fun e => h _ e.1 e.2)
theorem parC_yes {s : ByteArray} (h : (parC s).2 = true) : tellB (parC s).1 = true ∧ corS (parC s).1 = s := by
  unfold parC at h ⊢
  split
  · assumption
  · rename_i hn; rw [if_neg hn] at h; cases h

/-- What the parts are where s is a text. -/
theorem parts_of {s p0 p1 p3 : ByteArray} (h0 : (cutS s 34)[0]? = some p0) (h1 : (cutS s 34)[1]? = some p1) (h3 : (cutS s 34)[3]? = some p3) {y : CO} (hy : tellB y = true) (e : corS y = s) :
    p0 = lineP y.line.toNat ∧ p1 = y.old ∧ p3 = y.new := by
  subst e
  rw [cor_parts hy] at h0 h1 h3
  exact ⟨(Option.some.inj h0).symm, (Option.some.inj h1).symm, (Option.some.inj h3).symm⟩
theorem cand_eq {n : Int} {p1 p3 : ByteArray} {y : CO} (hy : tellB y = true) (h : n = (y.line.toNat : Int)) (h1 : p1 = y.old) (h3 : p3 = y.new) : (⟨n, p1, p3⟩ : CO) = y := by
  have := (tell_line hy).1
  rw [h, Int.toNat_of_nonneg this, h1, h3]

set_option maxRecDepth 100000 in
set_option maxHeartbeats 1000000 in
theorem specParseCorrection_any (s : ByteArray) (w : World) (hs : s.size ≤ 1048576) :
    Calls Tryz.prog 10 #[.string s] w fun e w' => e = .returned (.tuple #[.agg #[.int .i64 (parC s).1.line, .string (parC s).1.old, .string (parC s).1.new], .bool (parC s).2]) ∧ Below w.heap.size w w' := by
  have b0 := below_alloc (w := w) (.cells #[.int .i64 0, .string ⟨#[]⟩, .string ⟨#[]⟩] 25)
  have orr : Own coV 3 (w.alloc (.cells #[.int .i64 0, .string ⟨#[]⟩, .string ⟨#[]⟩] 25)) w.heap.size 25 (some ⟨w.heap.size, 0, none⟩) 1 1 [⟨0, ⟨#[]⟩, ⟨#[]⟩⟩] := ⟨rfl, rfl, .inr ⟨_, _, _, rfl, Nat.le_refl _, heap_new rfl, by omega, by simp [maxLen], rfl, rfl⟩⟩
  have b0' := below_alloc (w := w.alloc (.cells #[.int .i64 0, .string ⟨#[]⟩, .string ⟨#[]⟩] 25)) (.cells #[.int .i64 0, .string ⟨#[]⟩, .string ⟨#[]⟩] 25)
  have nrr : Own coV 3 ((w.alloc (.cells #[.int .i64 0, .string ⟨#[]⟩, .string ⟨#[]⟩] 25)).alloc (.cells #[.int .i64 0, .string ⟨#[]⟩, .string ⟨#[]⟩] 25)) (w.alloc (.cells #[.int .i64 0, .string ⟨#[]⟩, .string ⟨#[]⟩] 25)).heap.size 25 (some ⟨(w.alloc (.cells #[.int .i64 0, .string ⟨#[]⟩, .string ⟨#[]⟩] 25)).heap.size, 0, none⟩) 1 1 [⟨0, ⟨#[]⟩, ⟨#[]⟩⟩] := ⟨rfl, rfl, .inr ⟨_, _, _, rfl, Nat.le_refl _, heap_new rfl, by omega, by simp [maxLen], rfl, rfl⟩⟩
  replace orr := orr.below b0'
  replace b0 := below_trans b0 b0'
  simp only [World.size_alloc] at nrr
  go_enter Tryz.func10, Tryz.ntmps10
  go_wp2_with fail
  refine (l1Split_any s 34 _ (by omega)).mono ?_
  rintro e w1 ⟨⟨B, q, d, rfl, ho⟩, b1⟩
  have t1 := below_trans b0 b1
  replace orr := orr.below b1
  replace nrr := nrr.below b1
  by_cases hq : q = 5
  rotate_left
  · have HQ := Lib.hid hq
    have HO := Lib.hid ho.len
    have hq' : ¬ (q : Int) = 5 := by omega
    have hq2 : ((q : Int) == 5) = false := by rw [beq_eq_false_iff_ne]; omega
    have hq3 : ((q : Int) != 5) = true := by rw [bne, hq2]; rfl
    clear hq
    have E := Lib.hid (parC_none (s := s) (fun y hy e => by subst e; have h1 := HO.out; rw [cor_parts hy] at h1; exact HQ.out h1.symm))

    have y0 := nrr.cell coV_len (i := 0) (j := 0) rfl rfl
    have y1 := nrr.cell coV_len (i := 0) (j := 1) rfl rfl
    have y2 := nrr.cell coV_len (i := 0) (j := 2) rfl rfl
    simp only [Nat.zero_mul, Nat.zero_add] at y0 y1 y2
    have z0 := orr.cell coV_len (i := 0) (j := 0) rfl rfl
    have z1 := orr.cell coV_len (i := 0) (j := 1) rfl rfl
    have z2 := orr.cell coV_len (i := 0) (j := 2) rfl rfl
    have f0 := orr.frozen 0
    have f1 := orr.frozen 1
    have f2 := orr.frozen 2
    simp only [Nat.zero_mul, Nat.zero_add] at z0 z1 z2
    go_wp2
    exact bodyPost_ret (v := .tuple #[.agg #[.int .i64 0, .string ⟨#[]⟩, .string ⟨#[]⟩], .bool false]) (by simp [results, Tryz.results10, go_sem, z0, z1, z2]) rfl ⟨by rw [E.out], below_setCell (below_setCell (below_setCell t1 _ _ _ (Nat.le_refl _)) _ _ _ (Nat.le_refl _)) _ _ _ (Nat.le_refl _)⟩
  subst hq
  have RD := Lib.hid (ho.rd stV_len)
  obtain ⟨b, oo, p0, rfl, hp0, c0⟩ := RD.out.st (i := 0) (by omega)
  obtain ⟨b', oo', p1, hb', hp1, c1⟩ := RD.out.st (i := 1) (by omega)
  obtain ⟨b'', oo'', p3, hb'', hp3, c3⟩ := RD.out.st (i := 3) (by omega)
  injection hb' with hb'
  injection hb' with hb1 hb2
  subst hb1 hb2
  injection hb'' with hb''
  injection hb'' with hb1 hb2
  subst hb1 hb2
  rw [Nat.add_zero] at c0
  have s0 := cutS_size (List.mem_of_getElem? hp0)
  have s1 := cutS_size (List.mem_of_getElem? hp1)
  have s3 := cutS_size (List.mem_of_getElem? hp3)
  have HP := Lib.hid (fun (y : CO) (hy : tellB y = true) (e : corS y = s) => parts_of hp0 hp1 hp3 hy e)
  clear hp0 hp1 hp3 ho RD
  by_cases h8 : 8 ≤ p0.size
  rotate_left
  · have HX := Lib.hid h8
    have h8' : (p0.size : Int) < 8 := by omega
    clear h8
    have E := Lib.hid (parC_none (s := s) (fun y hy e => by obtain ⟨e0, -, -⟩ := HP.out y hy e; have := lineP_len hy; rw [← e0] at this; exact HX.out this.1))

    have y0 := nrr.cell coV_len (i := 0) (j := 0) rfl rfl
    have y1 := nrr.cell coV_len (i := 0) (j := 1) rfl rfl
    have y2 := nrr.cell coV_len (i := 0) (j := 2) rfl rfl
    simp only [Nat.zero_mul, Nat.zero_add] at y0 y1 y2
    have z0 := orr.cell coV_len (i := 0) (j := 0) rfl rfl
    have z1 := orr.cell coV_len (i := 0) (j := 1) rfl rfl
    have z2 := orr.cell coV_len (i := 0) (j := 2) rfl rfl
    have f0 := orr.frozen 0
    have f1 := orr.frozen 1
    have f2 := orr.frozen 2
    simp only [Nat.zero_mul, Nat.zero_add] at z0 z1 z2
    go_wp2
    exact bodyPost_ret (v := .tuple #[.agg #[.int .i64 0, .string ⟨#[]⟩, .string ⟨#[]⟩], .bool false]) (by simp [results, Tryz.results10, go_sem, z0, z1, z2]) rfl ⟨by rw [E.out], below_setCell (below_setCell (below_setCell t1 _ _ _ (Nat.le_refl _)) _ _ _ (Nat.le_refl _)) _ _ _ (Nat.le_refl _)⟩
  by_cases h9 : p0.size ≤ 9
  rotate_left
  · have HX := Lib.hid h9
    have h9' : 9 < (p0.size : Int) := by omega
    clear h9
    have E := Lib.hid (parC_none (s := s) (fun y hy e => by obtain ⟨e0, -, -⟩ := HP.out y hy e; have := lineP_len hy; rw [← e0] at this; exact HX.out this.2))

    have y0 := nrr.cell coV_len (i := 0) (j := 0) rfl rfl
    have y1 := nrr.cell coV_len (i := 0) (j := 1) rfl rfl
    have y2 := nrr.cell coV_len (i := 0) (j := 2) rfl rfl
    simp only [Nat.zero_mul, Nat.zero_add] at y0 y1 y2
    have z0 := orr.cell coV_len (i := 0) (j := 0) rfl rfl
    have z1 := orr.cell coV_len (i := 0) (j := 1) rfl rfl
    have z2 := orr.cell coV_len (i := 0) (j := 2) rfl rfl
    have f0 := orr.frozen 0
    have f1 := orr.frozen 1
    have f2 := orr.frozen 2
    simp only [Nat.zero_mul, Nat.zero_add] at z0 z1 z2
    go_wp2
    exact bodyPost_ret (v := .tuple #[.agg #[.int .i64 0, .string ⟨#[]⟩, .string ⟨#[]⟩], .bool false]) (by simp [results, Tryz.results10, go_sem, z0, z1, z2]) rfl ⟨by rw [E.out], below_setCell (below_setCell (below_setCell t1 _ _ _ (Nat.le_refl _)) _ _ _ (Nat.le_refl _)) _ _ _ (Nat.le_refl _)⟩
  have k0 := cell_regrown c0
  have hsub : IntKind.i64.wrap ((p0.size : Int) - 2) = ((p0.size - 2 : Nat) : Int) := by rw [IntWalk.i64_in _ (by omega)]; omega
  have hsb1 : 5 ≤ p0.size - 2 := by omega
  have hsb2 : p0.size - 2 ≤ p0.size := by omega
  obtain ⟨pn, hpn⟩ : ∃ pn, pn = p0.extract 5 (p0.size - 2) := ⟨_, rfl⟩
  have hpz : pn.size ≤ 4194304 := by rw [hpn, ByteArray.size_extract]; omega
  have CR : Hid (∀ (dq : Nat) (os : Array Obj), Calls Tryz.prog 31 #[.string (p0.extract 5 (p0.size - 2))] (grow (redrawn w1 dq) os) fun e w' => e = .returned (.tuple #[.int .i64 (rdP pn).1, .bool (rdP pn).2]) ∧ Below (grow (redrawn w1 dq) os).heap.size (grow (redrawn w1 dq) os) w') := fun dq os => by
    rw [← hpn]; exact l1Read_any pn _ hpz
  have HPN := Lib.hid hpn
  clear hpn
  go_wp2_with fail
  refine wp_region_quiet_below (by kernel_rfl) (by kernel_rfl) ?_
  repeat (go_big_quiet_step ((go_at_call 31; exact Calls.regrown_of (CR.out _ _))))
  refine wpQuiet_nil ?_
  intro _ hw'
  obtain ⟨⟨dq, osq⟩, hw''⟩ := hw'
  subst hw''
  have b2 := below_regrown w1 dq osq
  have HN : Hid (∀ y, tellB y = true → corS y = s → (rdP pn).2 = true ∧ (⟨(rdP pn).1, p1, p3⟩ : CO) = y) := fun y hy e => by
    obtain ⟨e0, e1, e3⟩ := HP.out y hy e
    have h1 := tell_line hy
    rw [HPN.out, e0, lineP_cut, rdP_num (by omega)]
    exact ⟨rfl, cand_eq hy rfl e1 e3⟩
  generalize hN : (rdP pn).1 = N at *
  generalize hG : (rdP pn).2 = G at *
  clear hN hG CR k0 HP HPN
  replace c1 := cell_below b2 c1
  replace c3 := cell_below b2 c3
  replace orr := orr.below b2
  replace nrr := nrr.below b2
  have t2 := below_trans t1 b2
  go_wp2_with fail
  generalize hwx : grow (redrawn w1 dq) osq = w2 at *
  clear hwx
  have k1 : ∀ o, (w2.alloc o).cell? ⟨b, oo + 1, none⟩ = some (.string p1) := fun o => cell_below (below_alloc o) c1
  have k3 : ∀ o, (w2.alloc o).cell? ⟨b, oo + 3, none⟩ = some (.string p3) := fun o => cell_below (below_alloc o) c3
  go_region
  clear k1 k3
  have b3 : Below w2.heap.size w2 (w2.alloc (.cells #[.int .i64 N, .string p1, .string p3] 25)).drew := (below_alloc _).drew
  have q0 := fun j => cell_of_row (w2.alloc (.cells #[.int .i64 N, .string p1, .string p3] 25)).drew w2.heap.size j _ _ _ (heap_new rfl)
  have x0 : (w2.alloc (.cells #[.int .i64 N, .string p1, .string p3] 25)).drew.cell? ⟨w2.heap.size, 0, none⟩ = some (.int .i64 N) := q0 0
  have x1 : (w2.alloc (.cells #[.int .i64 N, .string p1, .string p3] 25)).drew.cell? ⟨w2.heap.size, 1, none⟩ = some (.string p1) := q0 1
  have x2 : (w2.alloc (.cells #[.int .i64 N, .string p1, .string p3] 25)).drew.cell? ⟨w2.heap.size, 2, none⟩ = some (.string p3) := q0 2
  clear q0 c0 c1 c3
  have t3 := below_trans t2 b3
  replace orr := orr.below b3
  replace nrr := nrr.below b3
  generalize hwq : (w2.alloc (.cells #[.int .i64 N, .string p1, .string p3] 25)).drew = w3 at *
  clear hwq
  cases G
  · have E := Lib.hid (parC_none (s := s) (fun y hy e => by have := (HN.out y hy e).1; cases this))

    have y0 := nrr.cell coV_len (i := 0) (j := 0) rfl rfl
    have y1 := nrr.cell coV_len (i := 0) (j := 1) rfl rfl
    have y2 := nrr.cell coV_len (i := 0) (j := 2) rfl rfl
    simp only [Nat.zero_mul, Nat.zero_add] at y0 y1 y2
    have z0 := orr.cell coV_len (i := 0) (j := 0) rfl rfl
    have z1 := orr.cell coV_len (i := 0) (j := 1) rfl rfl
    have z2 := orr.cell coV_len (i := 0) (j := 2) rfl rfl
    have f0 := orr.frozen 0
    have f1 := orr.frozen 1
    have f2 := orr.frozen 2
    simp only [Nat.zero_mul, Nat.zero_add] at z0 z1 z2
    go_wp2
    exact bodyPost_ret (v := .tuple #[.agg #[.int .i64 0, .string ⟨#[]⟩, .string ⟨#[]⟩], .bool false]) (by simp [results, Tryz.results10, go_sem, z0, z1, z2]) rfl ⟨by rw [E.out], below_setCell (below_setCell (below_setCell t3 _ _ _ (Nat.le_refl _)) _ _ _ (Nat.le_refl _)) _ _ _ (Nat.le_refl _)⟩
  go_wp2_with fail
  have hmo : p1.size ≤ maxLen := by unfold maxLen; omega
  have hmn : p3.size ≤ maxLen := by unfold maxLen; omega
  refine (l22Told_any ⟨N, p1, p3⟩ _ hmo hmn).mono ?_
  rintro e w4 ⟨rfl, b4⟩
  replace x0 := cell_below b4 x0
  replace x1 := cell_below b4 x1
  replace x2 := cell_below b4 x2
  replace orr := orr.below b4
  replace nrr := nrr.below b4
  have t4 := below_trans t3 b4
  cases htl : tellB ⟨N, p1, p3⟩
  · have E := Lib.hid (parC_none (s := s) (fun y hy e => by have := (HN.out y hy e).2; rw [this, hy] at htl; cases htl))

    have y0 := nrr.cell coV_len (i := 0) (j := 0) rfl rfl
    have y1 := nrr.cell coV_len (i := 0) (j := 1) rfl rfl
    have y2 := nrr.cell coV_len (i := 0) (j := 2) rfl rfl
    simp only [Nat.zero_mul, Nat.zero_add] at y0 y1 y2
    have z0 := orr.cell coV_len (i := 0) (j := 0) rfl rfl
    have z1 := orr.cell coV_len (i := 0) (j := 1) rfl rfl
    have z2 := orr.cell coV_len (i := 0) (j := 2) rfl rfl
    have f0 := orr.frozen 0
    have f1 := orr.frozen 1
    have f2 := orr.frozen 2
    simp only [Nat.zero_mul, Nat.zero_add] at z0 z1 z2
    go_wp2
    exact bodyPost_ret (v := .tuple #[.agg #[.int .i64 0, .string ⟨#[]⟩, .string ⟨#[]⟩], .bool false]) (by simp [results, Tryz.results10, go_sem, z0, z1, z2]) rfl ⟨by rw [E.out], below_setCell (below_setCell (below_setCell t4 _ _ _ (Nat.le_refl _)) _ _ _ (Nat.le_refl _)) _ _ _ (Nat.le_refl _)⟩
  have HTL := Lib.hid htl
  obtain ⟨g1, g2, -, -⟩ := tellB_iff.1 htl
  obtain ⟨zo, zn, -⟩ := coOK_sizes g2
  rw [inB_iff] at g1
  obtain ⟨g3, g4⟩ := g1
  dsimp only at g3 g4 zo zn
  clear htl g2
  go_wp2_with fail
  refine (l22Text_any ⟨N, p1, p3⟩ _ g3 (by dsimp only; omega) zo zn).mono ?_
  rintro e w5 ⟨rfl, b5⟩
  replace x0 := cell_below b5 x0
  replace x1 := cell_below b5 x1
  replace x2 := cell_below b5 x2
  replace orr := orr.below b5
  replace nrr := nrr.below b5
  have t5 := below_trans t4 b5
  by_cases hce : corS ⟨N, p1, p3⟩ = s
  · have hcb := bytes_eq_t hce
    have E := Lib.hid (parC_hit HTL.out hce)
    clear hce
    have z0 := orr.cell coV_len (i := 0) (j := 0) rfl rfl
    have z1 := orr.cell coV_len (i := 0) (j := 1) rfl rfl
    have z2 := orr.cell coV_len (i := 0) (j := 2) rfl rfl
    have f0 := orr.frozen 0
    have f1 := orr.frozen 1
    have f2 := orr.frozen 2
    simp only [Nat.zero_mul, Nat.zero_add] at z0 z1 z2
    go_wp2
    exact bodyPost_ret (v := .tuple #[.agg #[.int .i64 N, .string p1, .string p3], .bool true]) (by simp [results, Tryz.results10, go_sem, z0, z1, z2]) rfl ⟨by rw [E.out], below_setCell (below_setCell (below_setCell t5 _ _ _ (Nat.le_refl _)) _ _ _ (Nat.le_refl _)) _ _ _ (Nat.le_refl _)⟩
  · have hcb := bytes_eq_f hce
    have HCE := Lib.hid hce
    clear hce
    have E := Lib.hid (parC_none (s := s) (fun y hy e => by have h2 := (HN.out y hy e).2; rw [h2] at HCE; exact HCE.out e))

    have y0 := nrr.cell coV_len (i := 0) (j := 0) rfl rfl
    have y1 := nrr.cell coV_len (i := 0) (j := 1) rfl rfl
    have y2 := nrr.cell coV_len (i := 0) (j := 2) rfl rfl
    simp only [Nat.zero_mul, Nat.zero_add] at y0 y1 y2
    have z0 := orr.cell coV_len (i := 0) (j := 0) rfl rfl
    have z1 := orr.cell coV_len (i := 0) (j := 1) rfl rfl
    have z2 := orr.cell coV_len (i := 0) (j := 2) rfl rfl
    have f0 := orr.frozen 0
    have f1 := orr.frozen 1
    have f2 := orr.frozen 2
    simp only [Nat.zero_mul, Nat.zero_add] at z0 z1 z2
    go_wp2
    exact bodyPost_ret (v := .tuple #[.agg #[.int .i64 0, .string ⟨#[]⟩, .string ⟨#[]⟩], .bool false]) (by simp [results, Tryz.results10, go_sem, z0, z1, z2]) rfl ⟨by rw [E.out], below_setCell (below_setCell (below_setCell t5 _ _ _ (Nat.le_refl _)) _ _ _ (Nat.le_refl _)) _ _ _ (Nat.le_refl _)⟩

set_option maxRecDepth 100000 in
set_option maxHeartbeats 1000000 in
theorem implParseCorrection_any (s : ByteArray) (mx : Int) (ev : Value) (w : World) (hs : s.size ≤ 1048576) (hM : w.cell? ⟨0, 0, none⟩ = some (.int .i64 mx)) (hT : Lib.TabIs Tryz.prog w "internal/strconv.uint64pow10" .u64 Lib.pow10Tab) (hE : w.cell? ⟨1, 0, none⟩ = some ev) (hev : ev = .nilIface ∨ ∃ te pe, ev = .iface te pe) :
    Calls Tryz.prog 8 #[.string s] w fun e w' => e = .returned (.tuple #[.agg #[.int .i64 (parC s).1.line, .string (parC s).1.old, .string (parC s).1.new], .bool (parC s).2]) ∧ Below w.heap.size w w' := by
  have b0 := below_alloc (w := w) (.cells #[.int .i64 0, .string ⟨#[]⟩, .string ⟨#[]⟩] 25)
  have orr : Own coV 3 (w.alloc (.cells #[.int .i64 0, .string ⟨#[]⟩, .string ⟨#[]⟩] 25)) w.heap.size 25 (some ⟨w.heap.size, 0, none⟩) 1 1 [⟨0, ⟨#[]⟩, ⟨#[]⟩⟩] := ⟨rfl, rfl, .inr ⟨_, _, _, rfl, Nat.le_refl _, heap_new rfl, by omega, by simp [maxLen], rfl, rfl⟩⟩
  replace hM := cell_below b0 hM
  replace hE := cell_below b0 hE
  replace hT := pow10_below hT b0
  have HM := Lib.hid hM
  have HE := Lib.hid hE
  have HT := Lib.hid hT
  have HEV := Lib.hid hev
  clear hM hE hT hev
  go_enter Tryz.func8, Tryz.ntmps8
  go_wp2_with fail
  refine (Split_any s 34 mx _ (by omega) HM.out).mono ?_
  rintro e w1 ⟨⟨B, q, d, rfl, ho⟩, b1⟩
  have t1 := below_trans b0 b1
  replace orr := orr.below b1
  replace HE := Lib.hid (cell_below b1 HE.out)
  replace HT := Lib.hid (pow10_below HT.out b1)
  by_cases hq : q = 5
  rotate_left
  · have HQ := Lib.hid hq
    have HO := Lib.hid ho.len
    have hq' : ¬ (q : Int) = 5 := by omega
    have hq2 : ((q : Int) == 5) = false := by rw [beq_eq_false_iff_ne]; omega
    have hq3 : ((q : Int) != 5) = true := by rw [bne, hq2]; rfl
    clear hq
    have E := Lib.hid (parC_none (s := s) (fun y hy e => by subst e; have h1 := HO.out; rw [cor_parts hy] at h1; exact HQ.out h1.symm))

    have z0 := orr.cell coV_len (i := 0) (j := 0) rfl rfl
    have z1 := orr.cell coV_len (i := 0) (j := 1) rfl rfl
    have z2 := orr.cell coV_len (i := 0) (j := 2) rfl rfl
    have f0 := orr.frozen 0
    have f1 := orr.frozen 1
    have f2 := orr.frozen 2
    simp only [Nat.zero_mul, Nat.zero_add] at z0 z1 z2
    go_wp2
    exact bodyPost_ret (v := .tuple #[.agg #[.int .i64 0, .string ⟨#[]⟩, .string ⟨#[]⟩], .bool false]) (by simp [results, Tryz.results8, go_sem, z0, z1, z2]) rfl ⟨by rw [E.out], below_setCell (below_setCell (below_setCell t1 _ _ _ (Nat.le_refl _)) _ _ _ (Nat.le_refl _)) _ _ _ (Nat.le_refl _)⟩
  subst hq
  have RD := Lib.hid (ho.rd stV_len)
  obtain ⟨b, oo, p0, rfl, hp0, c0⟩ := RD.out.st (i := 0) (by omega)
  obtain ⟨b', oo', p1, hb', hp1, c1⟩ := RD.out.st (i := 1) (by omega)
  obtain ⟨b'', oo'', p3, hb'', hp3, c3⟩ := RD.out.st (i := 3) (by omega)
  injection hb' with hb'
  injection hb' with hb1 hb2
  subst hb1 hb2
  injection hb'' with hb''
  injection hb'' with hb1 hb2
  subst hb1 hb2
  rw [Nat.add_zero] at c0
  have s0 := cutS_size (List.mem_of_getElem? hp0)
  have s1 := cutS_size (List.mem_of_getElem? hp1)
  have s3 := cutS_size (List.mem_of_getElem? hp3)
  have HP := Lib.hid (fun (y : CO) (hy : tellB y = true) (e : corS y = s) => parts_of hp0 hp1 hp3 hy e)
  clear hp0 hp1 hp3 ho RD
  obtain ⟨q0, hq0⟩ : ∃ q0 : ByteArray, q0 = mkB (Lib.trimPrefix p0.data.toList [108, 105, 110, 101, 32]) := ⟨_, rfl⟩
  obtain ⟨pn, hpn⟩ : ∃ pn : ByteArray, pn = mkB (Lib.trimSuffix q0.data.toList [58, 32]) := ⟨_, rfl⟩
  have hqz : q0.size ≤ 4194304 := by
    rw [hq0, mkB_size]
    unfold Lib.trimPrefix
    have : p0.data.toList.length = p0.size := rfl
    split
    · rw [List.length_drop]; omega
    · omega
  have hpz : pn.size ≤ 4194304 := by
    rw [hpn, mkB_size]
    unfold Lib.trimSuffix
    have : q0.data.toList.length = q0.size := rfl
    split
    · rw [List.length_take]; omega
    · omega
  have TP : Hid (Calls Tryz.prog 27 #[.string p0, .string ⟨#[108, 105, 110, 101, 32]⟩] w1 fun e w' => e = .returned (.string q0) ∧ w1 = w') := by
    show Calls _ _ _ _ _
    rw [hq0]
    exact (Tryz.strings_TrimPrefix p0 ⟨#[108, 105, 110, 101, 32]⟩ w1).mono fun e w' h => ⟨h.1, h.2.symm⟩
  have TS : Hid (Calls Tryz.prog 26 #[.string q0, .string ⟨#[58, 32]⟩] w1 fun e w' => e = .returned (.string pn) ∧ w1 = w') := by
    show Calls _ _ _ _ _
    rw [hpn]
    exact (Tryz.strings_TrimSuffix q0 ⟨#[58, 32]⟩ w1 (by omega)).mono fun e w' h => ⟨h.1, h.2.symm⟩
  have HPN : Hid (pn = ⟨(Lib.trimSuffix (⟨(Lib.trimPrefix p0.data.toList [108, 105, 110, 101, 32]).toArray⟩ : ByteArray).data.toList [58, 32]).toArray⟩) := by
    show _ = _
    rw [hpn, hq0]; rfl
  clear hq0 hpn
  go_wp2_with fail
  refine TP.out.mono ?_
  rintro e w2 ⟨rfl, rfl⟩
  go_wp2_with fail
  refine TS.out.mono ?_
  rintro e w2 ⟨rfl, rfl⟩
  go_wp2_with fail
  refine (ParseInt_any pn ev _ hpz HT.out HE.out HEV.out).mono ?_
  rintro e w2 ⟨rfl, b2⟩
  have HN : Hid (∀ y, tellB y = true → corS y = s → (prI pn).2 = true ∧ (⟨(prI pn).1, p1, p3⟩ : CO) = y) := fun y hy e => by
    obtain ⟨e0, e1, e3⟩ := HP.out y hy e
    have h1 := tell_line hy
    rw [HPN.out, e0, lineP_trim, prI_num (by omega)]
    exact ⟨rfl, cand_eq hy rfl e1 e3⟩
  generalize hN : (prI pn).1 = N at *
  generalize hG : (prI pn).2 = G at *
  clear hN hG HP HPN TP TS
  replace c1 := cell_below b2 c1
  replace c3 := cell_below b2 c3
  replace orr := orr.below b2
  have t2 := below_trans t1 b2
  go_wp2_with fail
  have k1 : ∀ o, (w2.alloc o).cell? ⟨b, oo + 1, none⟩ = some (.string p1) := fun o => cell_below (below_alloc o) c1
  have k3 : ∀ o, (w2.alloc o).cell? ⟨b, oo + 3, none⟩ = some (.string p3) := fun o => cell_below (below_alloc o) c3
  go_region
  clear k1 k3
  have b3 : Below w2.heap.size w2 (w2.alloc (.cells #[.int .i64 N, .string p1, .string p3] 25)).drew := (below_alloc _).drew
  have q0 := fun j => cell_of_row (w2.alloc (.cells #[.int .i64 N, .string p1, .string p3] 25)).drew w2.heap.size j _ _ _ (heap_new rfl)
  have x0 : (w2.alloc (.cells #[.int .i64 N, .string p1, .string p3] 25)).drew.cell? ⟨w2.heap.size, 0, none⟩ = some (.int .i64 N) := q0 0
  have x1 : (w2.alloc (.cells #[.int .i64 N, .string p1, .string p3] 25)).drew.cell? ⟨w2.heap.size, 1, none⟩ = some (.string p1) := q0 1
  have x2 : (w2.alloc (.cells #[.int .i64 N, .string p1, .string p3] 25)).drew.cell? ⟨w2.heap.size, 2, none⟩ = some (.string p3) := q0 2
  clear q0 c0 c1 c3
  have t3 := below_trans t2 b3
  replace orr := orr.below b3
  generalize hwq : (w2.alloc (.cells #[.int .i64 N, .string p1, .string p3] 25)).drew = w3 at *
  clear hwq
  cases G
  · have E := Lib.hid (parC_none (s := s) (fun y hy e => by have := (HN.out y hy e).1; cases this))

    have z0 := orr.cell coV_len (i := 0) (j := 0) rfl rfl
    have z1 := orr.cell coV_len (i := 0) (j := 1) rfl rfl
    have z2 := orr.cell coV_len (i := 0) (j := 2) rfl rfl
    have f0 := orr.frozen 0
    have f1 := orr.frozen 1
    have f2 := orr.frozen 2
    simp only [Nat.zero_mul, Nat.zero_add] at z0 z1 z2
    go_wp2
    exact bodyPost_ret (v := .tuple #[.agg #[.int .i64 0, .string ⟨#[]⟩, .string ⟨#[]⟩], .bool false]) (by simp [results, Tryz.results8, go_sem, z0, z1, z2]) rfl ⟨by rw [E.out], below_setCell (below_setCell (below_setCell t3 _ _ _ (Nat.le_refl _)) _ _ _ (Nat.le_refl _)) _ _ _ (Nat.le_refl _)⟩
  go_wp2_with fail
  have hmo : p1.size ≤ maxLen := by unfold maxLen; omega
  have hmn : p3.size ≤ maxLen := by unfold maxLen; omega
  refine (canTell_any ⟨N, p1, p3⟩ _ hmo hmn).mono ?_
  rintro e w4 ⟨rfl, b4⟩
  replace x0 := cell_below b4 x0
  replace x1 := cell_below b4 x1
  replace x2 := cell_below b4 x2
  replace orr := orr.below b4
  have t4 := below_trans t3 b4
  cases htl : tellB ⟨N, p1, p3⟩
  · have E := Lib.hid (parC_none (s := s) (fun y hy e => by have := (HN.out y hy e).2; rw [this, hy] at htl; cases htl))

    have z0 := orr.cell coV_len (i := 0) (j := 0) rfl rfl
    have z1 := orr.cell coV_len (i := 0) (j := 1) rfl rfl
    have z2 := orr.cell coV_len (i := 0) (j := 2) rfl rfl
    have f0 := orr.frozen 0
    have f1 := orr.frozen 1
    have f2 := orr.frozen 2
    simp only [Nat.zero_mul, Nat.zero_add] at z0 z1 z2
    go_wp2
    exact bodyPost_ret (v := .tuple #[.agg #[.int .i64 0, .string ⟨#[]⟩, .string ⟨#[]⟩], .bool false]) (by simp [results, Tryz.results8, go_sem, z0, z1, z2]) rfl ⟨by rw [E.out], below_setCell (below_setCell (below_setCell t4 _ _ _ (Nat.le_refl _)) _ _ _ (Nat.le_refl _)) _ _ _ (Nat.le_refl _)⟩
  have HTL := Lib.hid htl
  obtain ⟨g1, g2, -, -⟩ := tellB_iff.1 htl
  obtain ⟨zo, zn, -⟩ := coOK_sizes g2
  rw [inB_iff] at g1
  obtain ⟨g3, g4⟩ := g1
  dsimp only at g3 g4 zo zn
  clear htl g2
  go_wp2_with fail
  refine (correctionText_any ⟨N, p1, p3⟩ _ g3 (by dsimp only; omega) zo zn).mono ?_
  rintro e w5 ⟨rfl, b5⟩
  replace x0 := cell_below b5 x0
  replace x1 := cell_below b5 x1
  replace x2 := cell_below b5 x2
  replace orr := orr.below b5
  have t5 := below_trans t4 b5
  by_cases hce : corS ⟨N, p1, p3⟩ = s
  · have hcb := bytes_eq_t hce
    have E := Lib.hid (parC_hit HTL.out hce)
    clear hce
    have z0 := orr.cell coV_len (i := 0) (j := 0) rfl rfl
    have z1 := orr.cell coV_len (i := 0) (j := 1) rfl rfl
    have z2 := orr.cell coV_len (i := 0) (j := 2) rfl rfl
    have f0 := orr.frozen 0
    have f1 := orr.frozen 1
    have f2 := orr.frozen 2
    simp only [Nat.zero_mul, Nat.zero_add] at z0 z1 z2
    go_wp2
    exact bodyPost_ret (v := .tuple #[.agg #[.int .i64 N, .string p1, .string p3], .bool true]) (by simp [results, Tryz.results8, go_sem, z0, z1, z2]) rfl ⟨by rw [E.out], below_setCell (below_setCell (below_setCell t5 _ _ _ (Nat.le_refl _)) _ _ _ (Nat.le_refl _)) _ _ _ (Nat.le_refl _)⟩
  · have hcb := bytes_eq_f hce
    have HCE := Lib.hid hce
    clear hce
    have E := Lib.hid (parC_none (s := s) (fun y hy e => by have h2 := (HN.out y hy e).2; rw [h2] at HCE; exact HCE.out e))

    have z0 := orr.cell coV_len (i := 0) (j := 0) rfl rfl
    have z1 := orr.cell coV_len (i := 0) (j := 1) rfl rfl
    have z2 := orr.cell coV_len (i := 0) (j := 2) rfl rfl
    have f0 := orr.frozen 0
    have f1 := orr.frozen 1
    have f2 := orr.frozen 2
    simp only [Nat.zero_mul, Nat.zero_add] at z0 z1 z2
    go_wp2
    exact bodyPost_ret (v := .tuple #[.agg #[.int .i64 0, .string ⟨#[]⟩, .string ⟨#[]⟩], .bool false]) (by simp [results, Tryz.results8, go_sem, z0, z1, z2]) rfl ⟨by rw [E.out], below_setCell (below_setCell (below_setCell t5 _ _ _ (Nat.le_refl _)) _ _ _ (Nat.le_refl _)) _ _ _ (Nat.le_refl _)⟩

end Go.Proofs.YtmahfkimeclcbaaGreatDoor
