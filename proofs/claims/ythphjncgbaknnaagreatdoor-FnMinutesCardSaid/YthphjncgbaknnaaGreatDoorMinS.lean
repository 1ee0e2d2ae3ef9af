/-
  YthphjncgbaknnaaGreatDoorMinS: ParseEntry on the program's side: candidates, by contracts. (Printed by wip/gen/mins.py.)
-/
import Derived.Test.YthphjncgbaknnaaGreatDoorMinR
import Derived.Deep.RegionLaw
import Derived.Deep.DeepCutAuto
namespace Go.Proofs.YthphjncgbaknnaaGreatDoor
open Go Go.RowKit Go.Sort
set_option linter.unusedVariables false
set_option linter.unusedSimpArgs false

theorem Tryz.infoen : (Tryz.prog.info? 27).map (fun i => (i.zero, i.size, i.bytes)) = some (some (.agg #[.int .i64 0, .string ByteArray.empty, .string ByteArray.empty, .int .i64 0, .int .i64 0, .int .i64 0, .bool false]), 7, 72) := by kernel_rfl

theorem one_enP : ∀ x : EN, ∀ u ∈ enV x, u.oneCell' = true := by intro x u h; simp [enV] at h; rcases h with rfl | rfl | rfl | rfl | rfl | rfl | rfl <;> rfl
def cand4 (a2 a0 la : ByteArray) : List EN := [⟨1, a2, ⟨#[]⟩, 0, 0, 0, false⟩, ⟨6, a2, ⟨#[]⟩, 0, 0, 0, false⟩, ⟨2, a0, la, 0, 0, 0, false⟩, ⟨3, a0, la, 0, 0, 0, false⟩]
theorem candL_few {ws : List ByteArray} (h : ¬ 8 < ws.length) : candL ws = cand4 (wdA ws 2) (wdA ws 0) (wdI ws (ws.length - 1)) := by
  unfold candL cand4
  rw [if_neg h, List.append_nil]
theorem candL_no {ws : List ByteArray} (h : 8 < ws.length) (hv : votR ws = none) : candL ws = cand4 (wdA ws 2) (wdA ws 0) (wdI ws (ws.length - 1)) ++ [⟨5, wdA ws 2, wdI ws 7, 0, 0, 0, decide (wdI ws 8 = ⟨#[105, 110]⟩)⟩] := by
  unfold candL cand4
  rw [if_pos h, hv]
theorem candL_yes {ws : List ByteArray} (h : 8 < ws.length) {y n a : Int} (hv : votR ws = some (y, n, a)) : candL ws = cand4 (wdA ws 2) (wdA ws 0) (wdI ws (ws.length - 1)) ++ [⟨5, wdA ws 2, wdI ws 7, 0, 0, 0, decide (wdI ws 8 = ⟨#[105, 110]⟩)⟩] ++ [⟨4, ⟨#[]⟩, wdI ws 3, y, n, a, decide (wdI ws 5 = ⟨#[97, 100, 111, 112, 116, 101, 100]⟩)⟩] := by
  unfold candL cand4
  rw [if_pos h, hv]
  rfl
theorem trimD_size (s : ByteArray) : (trimD s).size ≤ s.size := by
  unfold trimD
  show (Lib.trimSuffix s.data.toList [46]).toArray.size ≤ s.data.toList.length
  rw [List.size_toArray]
  unfold Lib.trimSuffix
  split
  · rw [List.length_take]; exact Nat.min_le_right _ _
  · exact Nat.le_refl _
theorem cutS_ne (s : ByteArray) (b : UInt8) : cutS s b ≠ [] := by
  unfold cutS
  exact fun h => cutL_ne b s.data.toList [] (List.map_eq_nil_iff.1 h)
theorem eq_dec (a b : ByteArray) : (a.toList == b.toList) = decide (a = b) := by
  by_cases h : a = b
  · rw [bytes_eq_t h, decide_eq_true h]
  · rw [bytes_eq_f h, decide_eq_false h]
theorem eq_in (x : ByteArray) : (x.toList == [105, 110]) = decide (x = ⟨#[105, 110]⟩) := by
  rw [← eq_dec]
  have : (⟨#[105, 110]⟩ : ByteArray).toList = [105, 110] := by simp
  rw [this]
theorem eq_ad (x : ByteArray) : (x.toList == [97, 100, 111, 112, 116, 101, 100]) = decide (x = ⟨#[97, 100, 111, 112, 116, 101, 100]⟩) := by
  rw [← eq_dec]
  have : (⟨#[97, 100, 111, 112, 116, 101, 100]⟩ : ByteArray).toList = [97, 100, 111, 112, 116, 101, 100] := by simp
  rw [this]
theorem rd_from {α : Type} {enc : α → List Value} {sz : Nat} {w : World} {b o n c : Nat} {l : List α} (h : Rd enc sz w (some ⟨b, o, none⟩) n c l) (k : Nat) (hk : k ≤ n) (hk0 : k < n) : Rd enc sz w (some ⟨b, o + k * sz, none⟩) (n - k) (c - k) (l.drop k) := by
  refine ⟨by rw [List.length_drop, h.len], by have := h.cap; omega, ?_, ?_, ?_⟩
  · have := h.max; omega
  · intro e; cases e
  · intro hp
    obtain ⟨b', o', e, hc⟩ := h.at_ (by omega)
    injection e with e
    injection e with e1 e2
    subst e1 e2
    refine ⟨_, _, rfl, fun i x hx j u hu => ?_⟩
    rw [List.getElem?_drop] at hx
    have := hc (k + i) x hx j u hu
    rw [show o + k * sz + i * sz + j = o + (k + i) * sz + j from by rw [Nat.add_mul]; omega]
    exact this


set_option maxRecDepth 100000 in
set_option maxHeartbeats 4000000 in
theorem candidates_any (s : ByteArray) (mx : Int) (ev : Value) (w : World) (hs : s.size ≤ 1048576) (hM : w.cell? ⟨0, 0, none⟩ = some (.int .i64 mx)) (hT : Lib.TabIs Tryz.prog w "internal/strconv.uint64pow10" .u64 Lib.pow10Tab) (hE : w.cell? ⟨4, 0, none⟩ = some ev) (hev : ev = .nilIface ∨ ∃ te pe, ev = .iface te pe) :
    Calls Tryz.prog 25 #[.string s] w fun e w' => (∃ B q d, e = .returned (.slice B q d) ∧ Own enV 7 w' w.heap.size 27 B q d (candL (cutS (trimD s) 32))) ∧ Below w.heap.size w w' := by
  obtain ⟨i0, hi, hz0, hz1, hz2⟩ := info_parts Tryz.infoen
  have hts := trimD_size s
  obtain ⟨ws, hws⟩ : ∃ ws, ws = cutS (trimD s) 32 := ⟨_, rfl⟩
  rw [← hws]
  have HWS := Lib.hid hws
  clear hws
  have HT := Lib.hid hT
  have HE := Lib.hid hE
  have HEV := Lib.hid hev
  have HM := Lib.hid hM
  clear hT hE hev hM
  go_enter Tryz.func25, Tryz.ntmps25
  go_wp2_with fail
  refine (Tryz.strings_TrimSuffix s ⟨#[46]⟩ w (by omega)).mono ?_
  rintro e w0 ⟨rfl, hw0⟩
  replace hw0 : w = w0 := hw0.symm
  subst hw0
  go_wp2_with fail
  refine (Split_any (trimD s) 32 mx _ (by omega) HM.out).mono ?_
  rintro e w1 ⟨⟨B, q, d, rfl, ho⟩, b1⟩
  have hws := HWS.out
  have hgz : ∀ x ∈ ws, x.size ≤ 1048576 := fun x hx => by rw [hws] at hx; have := cutS_size hx; omega
  have hq1 : 1 ≤ ws.length := by
    have h9 := cutS_ne (trimD s) 32
    rw [← hws] at h9
    exact List.length_pos_iff.2 h9
  have hq2 : ws.length ≤ 1048577 := by have := cutS_len (trimD s) 32; rw [← hws] at this; omega
  rw [← hws] at ho
  clear hws HM HWS
  have hl := ho.len
  have RD := ho.rd stV_len
  obtain ⟨b, oo, la, rfl, hla, cl⟩ := RD.st (i := q - 1) (by omega)
  have LA := Lib.hid (show wdI ws (ws.length - 1) = la by rw [hl]; exact wdI_at hla)
  have hsub : IntKind.i64.wrap ((q : Int) - 1) = ((q - 1 : Nat) : Int) := by rw [IntWalk.i64_in _ (by omega)]; omega
  have hlt : q - 1 < q := by omega
  have C2 : Hid (∀ w2, Below w1.heap.size w1 w2 → Calls Tryz.prog 47 #[.slice (some ⟨b, oo, none⟩) q d, .int .i64 2] w2 fun e w' => e = .returned (.string (wdA ws 2)) ∧ Below w2.heap.size w2 w') := fun w2 hb => wordAt_any _ q d ws 2 w2 (RD.below hb) hgz (by omega)
  have C0 : Hid (∀ w2, Below w1.heap.size w1 w2 → Calls Tryz.prog 47 #[.slice (some ⟨b, oo, none⟩) q d, .int .i64 0] w2 fun e w' => e = .returned (.string (wdA ws 0)) ∧ Below w2.heap.size w2 w') := fun w2 hb => wordAt_any _ q d ws 0 w2 (RD.below hb) hgz (by omega)
  generalize ha2 : wdA ws 2 = a2 at *
  generalize ha0 : wdA ws 0 = a0 at *
  have A2 := Lib.hid ha2
  have A0 := Lib.hid ha0
  have RDh := Lib.hid RD
  have HG := Lib.hid hgz
  clear hla ha2 ha0 ho RD hgz
  go_wp2_with fail
  refine (C2.out _ (Below.refl _ _)).mono ?_
  rintro e w2 ⟨rfl, b2⟩
  go_wp2_with fail
  refine (C2.out _ b2).mono ?_
  rintro e w3 ⟨rfl, b3⟩
  have b3' := below_trans b2 b3
  go_wp2_with fail
  refine (C0.out _ b3').mono ?_
  rintro e w4 ⟨rfl, b4⟩
  have b4' := below_trans b3' b4
  go_wp2_with fail
  refine (C0.out _ b4').mono ?_
  rintro e w5 ⟨rfl, b5⟩
  have b5' := below_trans b4' b5
  have t5 := below_trans b1 b5'
  clear b2 b3 b4 b5 b3' b4' cl hsub
  have hs5 : w.heap.size ≤ w5.heap.size := t5.size
  by_cases h8 : 8 < q
  rotate_left
  · have h8' : ¬ 8 < (q : Int) := by omega
    have E := Lib.hid (candL_few (ws := ws) (by omega))
    clear h8
    go_wp2
    go_ret
    have o4 : Own enV 7 (w5.alloc (.cells #[.int .i64 1, .string a2, .string ⟨#[]⟩, .int .i64 0, .int .i64 0, .int .i64 0, .bool false, .int .i64 6, .string a2, .string ⟨#[]⟩, .int .i64 0, .int .i64 0, .int .i64 0, .bool false, .int .i64 2, .string a0, .string la, .int .i64 0, .int .i64 0, .int .i64 0, .bool false, .int .i64 3, .string a0, .string la, .int .i64 0, .int .i64 0, .int .i64 0, .bool false] 27)) w5.heap.size 27 (some ⟨w5.heap.size, 0, none⟩) 4 4 (cand4 a2 a0 la) := ⟨rfl, rfl, .inr ⟨_, _, _, rfl, Nat.le_refl _, heap_new rfl, by omega, by simp [maxLen], rfl, rfl⟩⟩
    exact ⟨⟨_, _, _, rfl, by rw [E.out, A2.out, A0.out, LA.out]; exact o4.base_le hs5⟩, below_trans t5 (below_alloc _)⟩
  have h8' : 8 < (q : Int) := by omega
  have hok8 := Lib.hid h8
  obtain ⟨b', oo', x7, hb', hx7, c7⟩ := RDh.out.st (i := 7) (by omega)
  injection hb' with hb'
  injection hb' with hb1 hb2
  subst hb1 hb2
  obtain ⟨b', oo', x8, hb', hx8, c8⟩ := RDh.out.st (i := 8) (by omega)
  injection hb' with hb'
  injection hb' with hb1 hb2
  subst hb1 hb2
  obtain ⟨b', oo', x3, hb', hx3, c3⟩ := RDh.out.st (i := 3) (by omega)
  injection hb' with hb'
  injection hb' with hb1 hb2
  subst hb1 hb2
  obtain ⟨b', oo', x5, hb', hx5, c5⟩ := RDh.out.st (i := 5) (by omega)
  injection hb' with hb'
  injection hb' with hb1 hb2
  subst hb1 hb2
  have X7 := Lib.hid (wdI_at hx7)
  have X8 := Lib.hid (wdI_at hx8)
  have X3 := Lib.hid (wdI_at hx3)
  have X5 := Lib.hid (wdI_at hx5)
  clear hx7 hx8 hx3 hx5
  have C3 := Lib.hid c3
  have C5 := Lib.hid c5
  have k7 := cell_below (below_alloc (w := w5) (.cells #[.int .i64 1, .string a2, .string ⟨#[]⟩, .int .i64 0, .int .i64 0, .int .i64 0, .bool false, .int .i64 6, .string a2, .string ⟨#[]⟩, .int .i64 0, .int .i64 0, .int .i64 0, .bool false, .int .i64 2, .string a0, .string la, .int .i64 0, .int .i64 0, .int .i64 0, .bool false, .int .i64 3, .string a0, .string la, .int .i64 0, .int .i64 0, .int .i64 0, .bool false] 27)) (cell_below b5' c7)
  have k8 := cell_below (below_alloc (w := w5) (.cells #[.int .i64 1, .string a2, .string ⟨#[]⟩, .int .i64 0, .int .i64 0, .int .i64 0, .bool false, .int .i64 6, .string a2, .string ⟨#[]⟩, .int .i64 0, .int .i64 0, .int .i64 0, .bool false, .int .i64 2, .string a0, .string la, .int .i64 0, .int .i64 0, .int .i64 0, .bool false, .int .i64 3, .string a0, .string la, .int .i64 0, .int .i64 0, .int .i64 0, .bool false] 27)) (cell_below b5' c8)
  have k3 := cell_below (below_alloc (w := w5) (.cells #[.int .i64 1, .string a2, .string ⟨#[]⟩, .int .i64 0, .int .i64 0, .int .i64 0, .bool false, .int .i64 6, .string a2, .string ⟨#[]⟩, .int .i64 0, .int .i64 0, .int .i64 0, .bool false, .int .i64 2, .string a0, .string la, .int .i64 0, .int .i64 0, .int .i64 0, .bool false, .int .i64 3, .string a0, .string la, .int .i64 0, .int .i64 0, .int .i64 0, .bool false] 27)) (cell_below b5' c3)
  have k5 := cell_below (below_alloc (w := w5) (.cells #[.int .i64 1, .string a2, .string ⟨#[]⟩, .int .i64 0, .int .i64 0, .int .i64 0, .bool false, .int .i64 6, .string a2, .string ⟨#[]⟩, .int .i64 0, .int .i64 0, .int .i64 0, .bool false, .int .i64 2, .string a0, .string la, .int .i64 0, .int .i64 0, .int .i64 0, .bool false, .int .i64 3, .string a0, .string la, .int .i64 0, .int .i64 0, .int .i64 0, .bool false] 27)) (cell_below b5' c5)
  have o4 : Own enV 7 (w5.alloc (.cells #[.int .i64 1, .string a2, .string ⟨#[]⟩, .int .i64 0, .int .i64 0, .int .i64 0, .bool false, .int .i64 6, .string a2, .string ⟨#[]⟩, .int .i64 0, .int .i64 0, .int .i64 0, .bool false, .int .i64 2, .string a0, .string la, .int .i64 0, .int .i64 0, .int .i64 0, .bool false, .int .i64 3, .string a0, .string la, .int .i64 0, .int .i64 0, .int .i64 0, .bool false] 27)) w5.heap.size 27 (some ⟨w5.heap.size, 0, none⟩) 4 4 (cand4 a2 a0 la) := ⟨rfl, rfl, .inr ⟨_, _, _, rfl, Nat.le_refl _, heap_new rfl, by omega, by simp [maxLen], rfl, rfl⟩⟩
  have b6 := below_alloc (w := w5) (.cells #[.int .i64 1, .string a2, .string ⟨#[]⟩, .int .i64 0, .int .i64 0, .int .i64 0, .bool false, .int .i64 6, .string a2, .string ⟨#[]⟩, .int .i64 0, .int .i64 0, .int .i64 0, .bool false, .int .i64 2, .string a0, .string la, .int .i64 0, .int .i64 0, .int .i64 0, .bool false, .int .i64 3, .string a0, .string la, .int .i64 0, .int .i64 0, .int .i64 0, .bool false] 27)
  have hs6 : w5.heap.size < (w5.alloc (.cells #[.int .i64 1, .string a2, .string ⟨#[]⟩, .int .i64 0, .int .i64 0, .int .i64 0, .bool false, .int .i64 6, .string a2, .string ⟨#[]⟩, .int .i64 0, .int .i64 0, .int .i64 0, .bool false, .int .i64 2, .string a0, .string la, .int .i64 0, .int .i64 0, .int .i64 0, .bool false, .int .i64 3, .string a0, .string la, .int .i64 0, .int .i64 0, .int .i64 0, .bool false] 27)).heap.size := by simp
  clear c7 c8 c3 c5
  have i7 : (7 : Int) < (q : Int) := by omega
  have i3 : (3 : Int) < (q : Int) := by omega
  have i5 : (5 : Int) < (q : Int) := by omega
  go_upto_region 5 with fail
  generalize hw6 : w5.alloc (.cells #[.int .i64 1, .string a2, .string ⟨#[]⟩, .int .i64 0, .int .i64 0, .int .i64 0, .bool false, .int .i64 6, .string a2, .string ⟨#[]⟩, .int .i64 0, .int .i64 0, .int .i64 0, .bool false, .int .i64 2, .string a0, .string la, .int .i64 0, .int .i64 0, .int .i64 0, .bool false, .int .i64 3, .string a0, .string la, .int .i64 0, .int .i64 0, .int .i64 0, .bool false] 27) = w6 at *
  clear hw6
  have T6 := below_trans b5' b6
  have hs51 : w1.heap.size ≤ w5.heap.size := b5'.size
  have hs56 : w5.heap.size ≤ w6.heap.size := b6.size
  go_cut [5] (fun v wy => (∃ B5 d5, v = .slice B5 5 d5 ∧ Own enV 7 wy w5.heap.size 27 B5 5 d5 (cand4 a2 a0 la ++ [⟨5, a2, x7, 0, 0, 0, x8.toList == [105, 110]⟩])) ∧ Below w1.heap.size w1 wy ∧ w5.heap.size < wy.heap.size)
  case first =>
    have O4 := Lib.hid o4
    clear o4
    go_region_law (first
      | (go_simp; go_at_call 47; ((with_reducible refine (C2.out _ (by first | exact T6 | exact T6.drew)).mono ?_); rintro e wa ⟨rfl, ba⟩; have t7a := (by first | exact below_trans T6.drew ba | exact below_trans T6 ba : Below w1.heap.size w1 wa); have s7 : w6.heap.size ≤ wa.heap.size := ba.size; have m7 := cell_below ba k7; have m8 := cell_below ba k8; have o4 := (by first | exact O4.out.drew.below ba | exact O4.out.below ba : Own enV 7 wa w5.heap.size 27 (some ⟨w5.heap.size, 0, none⟩) 4 4 (cand4 a2 a0 la))))
      | (refine step_pushAll rfl (.tmp 35) (.tmp 46) _ rfl w5.heap.size 27 i0 _ 7 72 Tryz.underlying35 hi hz0 hz1 hz2 rfl (by omega) enV enV_len one_enP (some ⟨w5.heap.size, 0, none⟩) 4 4 (cand4 a2 a0 la) (some ⟨wa.heap.size, 0, none⟩) 1 1 [⟨5, a2, x7, 0, 0, 0, x8.toList == [105, 110]⟩] rfl rfl 5 rfl (by simp only [maxLen]; omega) (by omega) (by first | omega | (simp; omega)) ?_ ?_ ?_
         · exact o4.alloc _
         · exact Rd.of_block (heap_new (by simp)) rfl
         intro B5 d5 w7 o7 g7
         have b7 := below_push (below_trans t7a (below_alloc _)) (o4.alloc _) g7 hs51
         have s7b : w5.heap.size < w7.heap.size := by have := g7.size; simp at this; omega))
    all_goals (go_wp2_with fail; go_meet; exact ⟨⟨B5, d5, rfl, o7⟩, b7, s7b⟩)
  case rest =>
  obtain ⟨⟨B5, d5, rfl, o5⟩, T7, S7⟩ := hcut
  obtain ⟨w7, rfl⟩ : ∃ x : World, x = wc := ⟨_, rfl⟩
  clear o4 b6 T6 k3 k5 k7 k8 hs6 hs56
  have O5 := Lib.hid o5
  have HSS := Lib.hid S7
  clear S7
  have hs7 : w1.heap.size ≤ w7.heap.size := T7.size
  clear o5
  have hqd := RDh.out.cap
  have i7q : (7 : Int) ≤ (q : Int) := by omega
  have i7d : (q : Int) ≤ (d : Int) := by omega
  have RD7 := Lib.hid (rd_from RDh.out 7 (by omega) (by omega))
  have hT7 := pow10_below HT.out (below_trans b1 T7)
  have hE7 := cell_below (below_trans b1 T7) HE.out
  have PV := Lib.hid (parseVotes_any _ (q - 7) (d - 7) (ws.drop 7) ev w7 (RD7.out.below T7) (fun x hx => HG.out x (List.mem_of_mem_drop hx)) (by omega) hT7 hE7 HEV.out)
  clear hT7 hE7
  go_wp2_with fail
  refine PV.out.mono ?_
  rintro e w8 ⟨⟨y, n, a, ok, rfl, hv⟩, b8⟩
  have T8 := below_trans T7 b8
  have O8 := Lib.hid (O5.out.below b8)
  have V := Lib.hid hv
  clear hv PV O5
  have s8 : w1.heap.size ≤ w8.heap.size := T8.size
  have s58 : w5.heap.size ≤ w8.heap.size := by have := b8.size; have := HSS.out; omega
  have hws8 : w.heap.size ≤ w5.heap.size := hs5
  cases ok
  · have E := Lib.hid (candL_no (ws := ws) (by have := hok8.out; omega) V.out)
    go_wp2
    go_ret
    exact ⟨⟨_, _, _, rfl, by rw [E.out, A2.out, A0.out, LA.out, X7.out, X8.out, ← eq_in]; exact (O8.out.alloc _).base_le hs5⟩, below_trans b1 (below_trans T8 (below_alloc _))⟩
  have E := Lib.hid (candL_yes (ws := ws) (by have := hok8.out; omega) V.out)
  have j3 := cell_below (below_alloc (w := w8) (.cells #[.int .i64 y, .int .i64 n, .int .i64 a] 25)) (cell_below T8 C3.out)
  have j5 := cell_below (below_alloc (w := w8) (.cells #[.int .i64 y, .int .i64 n, .int .i64 a] 25)) (cell_below T8 C5.out)
  have v0 : (w8.alloc (.cells #[.int .i64 y, .int .i64 n, .int .i64 a] 25)).cell? ⟨w8.heap.size, 0, none⟩ = some (.int .i64 y) := cell_of_row _ w8.heap.size 0 _ _ _ (heap_new rfl)
  have v1 : (w8.alloc (.cells #[.int .i64 y, .int .i64 n, .int .i64 a] 25)).cell? ⟨w8.heap.size, 1, none⟩ = some (.int .i64 n) := cell_of_row _ w8.heap.size 1 _ _ _ (heap_new rfl)
  have v2 : (w8.alloc (.cells #[.int .i64 y, .int .i64 n, .int .i64 a] 25)).cell? ⟨w8.heap.size, 2, none⟩ = some (.int .i64 a) := cell_of_row _ w8.heap.size 2 _ _ _ (heap_new rfl)
  have O9 := Lib.hid (O8.out.alloc (.cells #[.int .i64 y, .int .i64 n, .int .i64 a] 25))
  have T9 := below_trans T8 (below_alloc (w := w8) (.cells #[.int .i64 y, .int .i64 n, .int .i64 a] 25))
  have s59 : w5.heap.size ≤ (w8.alloc (.cells #[.int .i64 y, .int .i64 n, .int .i64 a] 25)).heap.size := by simp; omega
  clear O8
  go_upto_region 8 with fail
  generalize hw9 : w8.alloc (.cells #[.int .i64 y, .int .i64 n, .int .i64 a] 25) = w9 at *
  clear hw9
  go_region_law (first
    | (refine step_pushAll rfl (.tmp 55) (.tmp 65) _ rfl w5.heap.size 27 i0 _ 7 72 Tryz.underlying35 hi hz0 hz1 hz2 rfl (by omega) enV enV_len one_enP B5 5 d5 (cand4 a2 a0 la ++ [⟨5, a2, x7, 0, 0, 0, x8.toList == [105, 110]⟩]) (some ⟨w9.heap.size, 0, none⟩) 1 1 [⟨4, ⟨#[]⟩, x3, y, n, a, x5.toList == [97, 100, 111, 112, 116, 101, 100]⟩] rfl rfl 6 rfl (by simp only [maxLen]; omega) (by omega) (by first | omega | (simp; omega)) ?_ ?_ ?_
       · first | exact (O9.out.alloc _).drew | exact O9.out.drew.alloc _ | exact O9.out.alloc _
       · exact Rd.of_block (heap_new (by simp)) rfl
       intro B6 d6 w10 o10 g10
       have b10 := by first | exact below_push (below_trans T9.drew (below_alloc _)) (O9.out.drew.alloc _) g10 hs51 | exact below_push (below_trans T9 (below_alloc _)).drew (O9.out.alloc _).drew g10 hs51))
  all_goals
    go_wp2
    go_ret
    exact ⟨⟨_, _, _, rfl, by rw [E.out, A2.out, A0.out, LA.out, X7.out, X8.out, X3.out, X5.out, ← eq_in, ← eq_ad]; exact o10.base_le hs5⟩, below_trans b1 b10⟩
end Go.Proofs.YthphjncgbaknnaaGreatDoor
