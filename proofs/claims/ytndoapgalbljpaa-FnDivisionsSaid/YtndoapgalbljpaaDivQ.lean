/-
  YtndoapgalbljpaaDivQ: JoinClauses, the program's side, by contracts. (Printed by wip/gen/divq.py.)
-/
import Derived.Test.YtndoapgalbljpaaDivP
import Derived.Test.YtndoapgalbljpaaDivA
import Derived.Test.YtndoapgalbljpaaInn
import Derived.Deep.RegionLaw
import Derived.Deep.DeepCutAuto
namespace Go.Proofs.Ytndoapgalbljpaa
open Go Go.RowKit Go.Sort
set_option linter.unusedVariables false

theorem Try.infoClJ : (Try.prog.info? 57).map (fun i => (i.zero, i.size, i.bytes)) = some (some (.agg #[.slice none 0 0, .slice none 0 0]), 2, 48) := by kernel_rfl
theorem Try.infoStJ : (Try.prog.info? 9).map (fun i => (i.zero, i.size, i.bytes)) = some (some (.string ByteArray.empty), 1, 16) := by kernel_rfl
theorem one_hcJ : ∀ x : HC, ∀ u ∈ hCV x, u.oneCell' = true := by intro x u h; simp [hCV] at h; rcases h with rfl | rfl <;> rfl
theorem one_stJ : ∀ x : ByteArray, ∀ u ∈ stV x, u.oneCell' = true := by intro x u h; simp [stV] at h; subst h; rfl
theorem InnC.ext {w : World} {base top : Nat} {hs : List HC} {l : List CL} {x : CL} (h : InnC w base top hs l) (hl : hs.length ≤ l.length) : InnC w base top hs (l ++ [x]) :=
  ⟨fun i k y h1 h2 => h.w_ i k y h1 (by rw [List.getElem?_append_left (by have := (List.getElem?_eq_some_iff.1 h1).1; omega)] at h2; exact h2), fun i k y h1 h2 => h.n_ i k y h1 (by rw [List.getElem?_append_left (by have := (List.getElem?_eq_some_iff.1 h1).1; omega)] at h2; exact h2), h.dw, h.dn, h.tw, h.tn⟩
theorem ret_sl_boolJ {B : Option Addr} {q d : Nat} {a b : Bool} (h : a = b) : Ending.returned (.tuple #[.slice B q d, .bool a]) = .returned (.tuple #[.slice B q d, .bool b]) := by rw [h]
theorem _root_.Go.World.grownBy.undrew {w w' : World} {r : Option Nat} (h : w.drew.grownBy w' r) : w.grownBy w' r := ⟨h.os, h.tape, h.output, h.size, h.block⟩
theorem wo_eq (r : List Int) (I : Nat) : r.filter (fun x => !(x == (I : Int))) = wo r I := by
  unfold wo
  congr 1
theorem map_snocJ {ns : List Int} {j : Nat} {y : Int} (i : Nat) (h : ns[j]? = some y) : (ns.take (j + 1)).map (dn i) = (ns.take j).map (dn i) ++ [dn i y] := by
  rw [List.take_add_one, h, List.map_append]; rfl
theorem im_sz {l : List CL} {i k : Nat} (hv : clsB l = true) (hg : ∀ x ∈ l, ClSz x) (hi : i + 1 < l.length) : ∀ x ∈ imTo l i k, ClSz x := fun x hx => by
  have hat : ∀ j, ClSz (at2 l j) := fun j => by
    unfold at2
    cases h : l[j]? with
    | none => intro s hs; simp [clD] at hs
    | some y => exact hg y (List.mem_of_getElem? h)
  unfold imTo at hx
  rw [List.mem_append, List.mem_append] at hx
  rcases hx with hx | hx | hx
  · obtain ⟨y, hy, rfl⟩ := List.mem_map.1 hx
    exact hg y (List.mem_of_mem_take hy)
  · split at hx
    · cases hx
    · split at hx
      · rw [List.mem_singleton.1 hx]; exact hat i
      · rw [List.mem_singleton.1 hx]
        intro s hs
        rcases List.mem_append.1 hs with h | h
        · exact hat i s h
        · exact hat (i + 1) s h
  · obtain ⟨y, hy, rfl⟩ := List.mem_map.1 hx
    exact hg y (List.mem_of_mem_take (List.mem_of_mem_drop hy))
theorem im_nsz {l : List CL} {i k : Nat} (hv : clsB l = true) (hi : i + 1 < l.length) : ∀ x ∈ imTo l i k, x.ns.length ≤ 16 := fun x hx => by
  have hb : ∀ y ∈ l, y.ns.length ≤ 8 := fun y hy => by
    obtain ⟨j, hj⟩ := List.getElem?_of_mem hy
    exact ns_len hv hj
  have hat : ∀ j, (at2 l j).ns.length ≤ 8 := fun j => by
    unfold at2
    cases h : l[j]? with
    | none => simp [clD]
    | some y => exact hb y (List.mem_of_getElem? h)
  unfold imTo at hx
  rw [List.mem_append, List.mem_append] at hx
  rcases hx with hx | hx | hx
  · obtain ⟨y, hy, rfl⟩ := List.mem_map.1 hx
    have := hb y (List.mem_of_mem_take hy)
    simp only [gI, List.length_map]; omega
  · split at hx
    · cases hx
    · split at hx
      · rw [List.mem_singleton.1 hx]
        have := hat i
        simp only [gI, List.length_map]; omega
      · rw [List.mem_singleton.1 hx]
        have h1 := hat i
        have h2 := hat (i + 1)
        have h3 : (wo ((at2 l (i + 1)).ns.map (dn i)) i).length ≤ (at2 l (i + 1)).ns.length := Nat.le_trans (List.length_filter_le _ _) (by rw [List.length_map]; exact Nat.le_refl _)
        simp only [mgI, List.length_append, List.length_map]
        omega
  · obtain ⟨y, hy, rfl⟩ := List.mem_map.1 hx
    have := hb y (List.mem_of_mem_take (List.mem_of_mem_drop hy))
    simp only [gI, List.length_map]; omega
def SlotC (wr : World) (w : World) (L : List CL) (v : Value) : Prop := ∃ B q d hs, v = .slice B q d ∧ Own hCV 2 wr w.heap.size 57 B q d hs ∧ L.length = q ∧ InnC wr w.heap.size wr.heap.size hs L

/-! ### the first loop -/
set_option maxRecDepth 100000 in
set_option maxHeartbeats 16000000 in
theorem implJoin_any (A : Option Addr) (n c : Nat) (hs0 : List HC) (l : List CL) (i : Int) (w : World) (ha : RdC w A n c hs0 l) (hg : ∀ x ∈ l, ClSz x) :
    Calls Try.prog 8 #[.slice A n c, .int .i64 i] w fun e w' => (∃ B q d hs, e = .returned (.tuple #[.slice B q d, .bool (joinG l i)]) ∧ OwnC w' w.heap.size w'.heap.size B q d hs (joinL l i)) ∧ Below w.heap.size w w' := by
  obtain ⟨l0, lii, lz0, lz1, lz2⟩ := info_parts Try.infoClJ
  obtain ⟨s0, sii, sz0, sz1, sz2⟩ := info_parts Try.infoStJ
  obtain ⟨i0, iii, iz0, iz1, iz2⟩ := info_parts Try.infoInP
  have HL := Lib.hid ha.len
  have HG := Lib.hid hg
  have hnn := ha.le
  cases h0 : joinG0 l i
  · have E1 : Hid (joinG l i = false) := by show _ = _; unfold joinG; rw [h0]; rfl
    have E2 : Hid (joinL l i = []) := by show _ = _; unfold joinL; rw [E1.out]; rfl
    have J0 := Lib.hid h0
    cases hv : clsB l
    · have HV := Lib.hid hv
      clear hv h0
      go_enter Try.func8, Try.ntmps8
      go_wp2_with fail
      refine (AreClauses_any _ _ _ _ _ _ ha hg).mono ?_
      rintro e w1 ⟨rfl, b1⟩
      rw [HV.out]
      go_wp2
      go_ret2
      exact ⟨⟨_, _, _, [], ret_sl_boolJ E1.out.symm, by rw [E2.out]; exact OwnC.nil _ _ _⟩, b1⟩
    · have HV := Lib.hid hv
      have HI : Hid (inB i 0 ((n : Int) - 2) = false) := by
        show _ = _
        unfold joinG0 at h0
        rw [hv, Bool.true_and, HL.out] at h0
        exact h0
      have hn8 : n ≤ 8 := by rw [← HL.out]; exact cls_len hv
      clear hv h0
      go_enter Try.func8, Try.ntmps8
      go_wp2_with fail
      refine (AreClauses_any _ _ _ _ _ _ ha hg).mono ?_
      rintro e w1 ⟨rfl, b1⟩
      rw [HV.out]
      go_wp2_with fail
      refine (inside_any _ _ _ _).mono ?_
      rintro e w2 ⟨rfl, rfl⟩
      rw [HI.out]
      go_wp2
      go_ret2
      exact ⟨⟨_, _, _, [], ret_sl_boolJ E1.out.symm, by rw [E2.out]; exact OwnC.nil _ _ _⟩, b1⟩
  obtain ⟨hv, I, rfl, hI1⟩ := joinG0_iff h0
  have HV := Lib.hid hv
  have hn8 : n ≤ 8 := by rw [← HL.out]; exact cls_len hv
  have hIn : I + 1 < n := by rw [← HL.out]; exact hI1
  have HI : Hid (inB (I : Int) 0 ((n : Int) - 2) = true) := Lib.hid (inB_t (by omega) (by omega))
  have HJ : Hid (joinG l (I : Int) = clsB (spTo l I l.length)) := by show _ = _; unfold joinG; rw [h0, Int.toNat_natCast, Bool.true_and]
  have HI1 := Lib.hid hI1
  clear hv h0
  go_enter Try.func8, Try.ntmps8
  go_wp2_with fail
  refine (AreClauses_any _ _ _ _ _ _ ha hg).mono ?_
  rintro e w1 ⟨rfl, b1⟩
  rw [HV.out]
  go_wp2_with fail
  refine (inside_any _ _ _ _).mono ?_
  rintro e w2 ⟨rfl, rfl⟩
  rw [HI.out]
  have oO : Own hCV 2 (w1.alloc (.cells #[] 57)) w.heap.size 57 (some ⟨w1.heap.size, 0, none⟩) 0 0 [] := (Own.empty hCV 2 w1 57).base_le b1.size
  have tO := below_trans b1 (below_alloc (w := w1) (.cells #[] 57))
  clear hg hI1
  go_wp2
  go_loopw [6, 27] (fun v kv wr => ∃ k : Nat, k ≤ n ∧ kv = .int .i64 k ∧ SlotC wr w (imTo l I k) v ∧ Below w.heap.size w wr) (fun _ kv _ => n - (intOf kv).toNat)
  case atStart => exact ⟨0, Nat.zero_le _, rfl, ⟨_, 0, _, [], rfl, oO, by rw [imTo_zero]; rfl, by rw [imTo_zero]; exact InnC.nil _ _ _ _⟩, tO⟩
  case round =>
    clear oO tO
    obtain ⟨k, hk, rfl, ⟨B, q, d, hs, rfl, ho, hql, hI⟩, hbw⟩ := hrel
    have HO := Lib.hid ho
    have HQ := Lib.hid hql
    have HIN := Lib.hid hI
    clear ho hql hI
    by_cases hlt : k < n
    · obtain ⟨b3, o3, hc, x, hAe, hx, hh, c0, c1, x0, x1⟩ := (ha.below hbw).at hlt
      have HX := Lib.hid hx
      have XW := Lib.hid x0
      have XN := Lib.hid x1
      have hns : hc.nn ≤ 8 := by rw [← x1.len]; exact ns_len HV.out hx
      have hws : hc.wn ≤ 5 := by rw [← x0.len]; exact (ws_ok HV.out hx).1
      have hnnc := x1.cap
      have hq8 : q ≤ 8 := by
        have h9 := imTo_len (l := l) (i := I) (k := k) (by rw [HL.out]; omega) HI1.out
        rw [HQ.out] at h9
        split at h9 <;> omega
      obtain ⟨wv, hwv⟩ : ∃ wv : World, wv = wr := ⟨_, rfl⟩
      subst hwv
      have bs : Below wv.heap.size wv (wv.alloc (.cells #[.slice hc.wA hc.wn hc.wc, .slice hc.nA hc.nn hc.nc] 57)) := below_alloc _
      have zs : (wv.alloc (.cells #[.slice hc.wA hc.wn hc.wc, .slice hc.nA hc.nn hc.nc] 57)).heap.size = wv.heap.size + 1 := by simp
      have g0 : (wv.alloc (.cells #[.slice hc.wA hc.wn hc.wc, .slice hc.nA hc.nn hc.nc] 57)).cell? ⟨wv.heap.size, 0, none⟩ = some (.slice hc.wA hc.wn hc.wc) := cell_of_row _ _ 0 _ _ _ (heap_new rfl)
      have g1 : (wv.alloc (.cells #[.slice hc.wA hc.wn hc.wc, .slice hc.nA hc.nn hc.nc] 57)).cell? ⟨wv.heap.size, 1, none⟩ = some (.slice hc.nA hc.nn hc.nc) := cell_of_row _ _ 1 _ _ _ (heap_new rfl)
      rw [hAe]
      have HAE := Lib.hid hAe
      clear hx hh x0 x1 hAe
      go_wp2
      obtain ⟨w8, hw8⟩ : ∃ x : World, x = wv.alloc (.cells #[.slice hc.wA hc.wn hc.wc, .slice hc.nA hc.nn hc.nc] 57) := ⟨_, rfl⟩
      rw [← hw8] at bs zs g0 g1
      have oe : Own inV 1 (w8.alloc (.cells #[] 3)) w8.heap.size 3 (some ⟨wv.heap.size + 1, 0, none⟩) 0 0 [] := by have h9 := Own.empty inV 1 w8 3; rw [zs] at h9 ⊢; exact h9
      have be := below_alloc (w := w8) (.cells #[] 3)
      rw [← hw8]
      have HG0 := Lib.hid g0
      have HG1 := Lib.hid g1
      have BS := Lib.hid bs
      have ZS := Lib.hid zs
      clear hw8 g0 g1 c0 c1 bs zs
      go_loopw [9, 36] (fun v jv wr => ∃ j : Nat, j ≤ hc.nn ∧ jv = .int .i64 j ∧ (∃ B2 d2, v = .slice B2 j d2 ∧ Own inV 1 wr w8.heap.size 3 B2 j d2 ((x.ns.take j).map (dn I))) ∧ Below w8.heap.size w8 wr) (fun _ jv _ => hc.nn - (intOf jv).toNat)
      case atStart => exact ⟨0, Nat.zero_le _, rfl, ⟨_, 0, rfl, oe⟩, be⟩
      case round =>
        clear oe be
        obtain ⟨j, hj, rfl, ⟨B2, d2, rfl, o2⟩, hb8⟩ := hrel
        have O2 := Lib.hid o2
        clear o2
        by_cases hjn : j < hc.nn
        · obtain ⟨b4, o4, y, hAy, hy, d1⟩ := ((XN.out.below (below_trans BS.out (by exact hb8))).in hjn)
          have NX := Lib.hid (map_snocJ I hy)
          have hyb := ns_bd HV.out HX.out (List.mem_of_getElem? hy)
          rw [hAy]
          have HAY := Lib.hid hAy
          clear hy hAy
          have hj0 : (0 : Int) ≤ (j : Int) := by omega
          have hjn' : (j : Int) < (hc.nn : Int) := by omega
          have hy0 := hyb.1
          have hy1 : y ≤ 8 := by have := hyb.2; omega
          by_cases hyI : (I : Int) < y
          · have ED := Lib.hid (dn_gt hyI)
            go_wp2_with (at_builtin; refine wpList_push rfl _ _ _ rfl w8.heap.size 3 i0 (.int .i64 0) 1 8 Try.underlying38 iii iz0 iz1 iz2 rfl (by omega) inV inV_len one_intP B2 j d2 _ rfl O2.out (y - 1) _ rfl _ rfl (by first | rfl | simp) (by simp only [maxLen]; omega) (by omega) hb8.size ?_; intro B3 d3 w3 ho3 hg3)
            go_roundw
            case rel => exact ⟨j + 1, by omega, by go_num, ⟨B3, d3, rfl, by rw [NX.out, ED.out]; exact ho3⟩, below_push hb8 O2.out hg3 (Nat.le_refl _)⟩
            case measure => first | (simp [intOf]; done) | (simp [intOf]; omega)
          · have ED := Lib.hid (dn_le hyI)
            go_wp2_with (at_builtin; refine wpList_push rfl _ _ _ rfl w8.heap.size 3 i0 (.int .i64 0) 1 8 Try.underlying38 iii iz0 iz1 iz2 rfl (by omega) inV inV_len one_intP B2 j d2 _ rfl O2.out (y) _ rfl _ rfl (by first | rfl | simp) (by simp only [maxLen]; omega) (by omega) hb8.size ?_; intro B3 d3 w3 ho3 hg3)
            go_roundw
            case rel => exact ⟨j + 1, by omega, by go_num, ⟨B3, d3, rfl, by rw [NX.out, ED.out]; exact ho3⟩, below_push hb8 O2.out hg3 (Nat.le_refl _)⟩
            case measure => first | (simp [intOf]; done) | (simp [intOf]; omega)
        · obtain rfl : j = hc.nn := by omega
          have ET : Hid ((x.ns.take hc.nn).map (dn I) = x.ns.map (dn I)) := by show _ = _; rw [List.take_of_length_le (by rw [XN.out.len]; exact Nat.le_refl _)]
          have O2 := Lib.hid (show Own inV 1 wr w8.heap.size 3 B2 hc.nn d2 (x.ns.map (dn I)) by rw [← ET.out]; exact O2.out)
          have t8 := below_trans BS.out (by exact hb8)
          have OB := Lib.hid (HO.out.below t8)
          have G0 := Lib.hid (cell_below hb8 HG0.out)
          have G1 := Lib.hid (cell_below hb8 HG1.out)
          have hzz := hb8.size
          have tw := below_trans hbw t8
          by_cases hkI : k = I + 1
          · obtain rfl : k = I + 1 := hkI
            have hkf : (((I + 1 : Nat) : Int) != (I : Int) + 1) = false := by simp
            have hq1 : q = I + 1 := by
              have h9 := imTo_len (l := l) (i := I) (k := I + 1) (by rw [HL.out]; omega) HI1.out
              rw [HQ.out, if_pos (Nat.le_refl _)] at h9
              exact h9
            obtain ⟨xi, hxi⟩ : ∃ y, l[I]? = some y := ⟨_, List.getElem?_eq_getElem (by rw [HL.out]; omega)⟩
            have HXI := Lib.hid hxi
            have HLI := Lib.hid (imTo_geti hxi)
            have MID : Hid (imTo l I (I + 1 + 1) = (imTo l I (I + 1)).set I ⟨xi.ws ++ x.ws, xi.ns.map (dn I) ++ wo (x.ns.map (dn I)) I⟩) := by show _ = _; rw [imTo_mid HI1.out, mgI_of hxi HX.out]
            have hxiw : xi.ws.length ≤ 5 := (ws_ok HV.out hxi).1
            have hxin : xi.ns.length ≤ 8 := ns_len HV.out hxi
            have hsl : hs.length = q := HO.out.len
            obtain ⟨h1, hh1⟩ : ∃ h, hs[I]? = some h := ⟨_, List.getElem?_eq_getElem (by rw [hsl]; omega)⟩
            have HH1 := Lib.hid hh1
            have I1 := Lib.hid ((HIN.out.below t8).top_le t8.size)
            have HLEN : Hid (hs.length ≤ (imTo l I (I + 1)).length) := by show _ ≤ _; rw [HQ.out, hsl]; exact Nat.le_refl _
            have W1 := Lib.hid (show Own stV 1 wr w.heap.size 9 h1.wA h1.wn h1.wc xi.ws from I1.out.w_ I h1 (gI I xi) hh1 HLI.out)
            have N1 := Lib.hid (show Own inV 1 wr w.heap.size 3 h1.nA h1.nn h1.nc (xi.ns.map (dn I)) from I1.out.n_ I h1 (gI I xi) hh1 HLI.out)
            have hwn1 : h1.wn ≤ 5 := by rw [← W1.out.len]; exact hxiw
            have hnn1 : h1.nn ≤ 8 := by rw [← N1.out.len, List.length_map]; exact hxin
            obtain ⟨g, hBg⟩ := OB.out.form (by omega)
            subst hBg
            have cw := OB.out.cell hCV_len (i := I) (j := 0) hh1 rfl
            have cn := OB.out.cell hCV_len (i := I) (j := 1) hh1 rfl
            have fw := OB.out.frozen (I * 2)
            simp only [Nat.add_zero] at cw
            have hsz := tw.size
            have hI0 : (0 : Int) ≤ (I : Int) := by omega
            have hIq : (I : Int) < (q : Int) := by omega
            have g0 := G0.out
            have HHS := Lib.hid hsl
            have CN := Lib.hid cn
            have HQ1 := Lib.hid hq1
            clear hxi hh1 hsl cn hq1
            go_wp2_with fail
            go_region_law (first
              | (refine step_pushAll_at rfl (.tmp 69) (.tmp 71) _ rfl w.heap.size 9 s0 (.string ByteArray.empty) 1 16 Try.underlying45 sii sz0 sz1 sz2 rfl (by omega) stV stV_len one_stJ h1.wA h1.wn h1.wc xi.ws hc.wA hc.wn hc.wc x.ws rfl rfl (h1.wn + hc.wn) rfl (by simp only [maxLen]; omega) (by omega) (by first | exact hsz | (simp; exact hsz)) ?_ ?_ ?_
                 · first | exact W1.out.drew | exact W1.out
                 · first | exact (XW.out.below t8).drew | exact XW.out.below t8
                 intro A6 d6 w6 o6 g6 at6
                 have cw6 : w6.cell? ⟨g, I * 2, none⟩ = some (.slice h1.wA h1.wn h1.wc) := by have h9 := (OB.out.grown (g6.undrew) (OB.out.ne_block W1.out (by decide))).cell hCV_len (i := I) (j := 0) HH1.out rfl; simpa using h9
                 have fw6 : w6.frozen? ⟨g, I * 2, none⟩ = false := (OB.out.grown (g6.undrew) (OB.out.ne_block W1.out (by decide))).frozen (I * 2)))
            all_goals
              have G6 := Lib.hid (g6.undrew)
              have OH6 := Lib.hid (OB.out.grown G6.out (OB.out.ne_block W1.out (by decide)))
              have ST := Lib.hid (OH6.out.store hCV_len (i := I) (j := 0) HH1.out (by omega) ({ h1 with wA := A6, wn := h1.wn + hc.wn, wc := d6 } : HC) (.slice A6 (h1.wn + hc.wn) d6) rfl)
              have I6 := Lib.hid (I1.out.set_w HLEN.out HH1.out HLI.out G6.out o6 (show ∀ k, k < wr.heap.size → blockOf h1.wA ≠ some k → blockOf A6 ≠ some k from at6) G6.out.size)
              have N6 := Lib.hid (O2.out.grown G6.out (O2.out.ne_block W1.out (by decide)))
              have T6 := Lib.hid (below_push tw W1.out G6.out (Nat.le_refl _))
              have I7 := Lib.hid ((I6.out.hdw OH6.out ST.out.2).top_le ST.out.2.size)
              have O7 := Lib.hid ST.out.1
              have N7 := Lib.hid (N6.out.grown ST.out.2 (N6.out.ne_block OH6.out (by decide)))
              have T7 := Lib.hid (below_push T6.out OH6.out ST.out.2 (Nat.le_refl _))
              have hz6 := G6.out.size
              have hz7 := ST.out.2.size
              simp only [Nat.add_zero] at I7 O7 N7 T7 hz7
              generalize hw7 : w6.setCell ⟨g, I * 2, none⟩ (.slice A6 (h1.wn + hc.wn) d6) = w7 at *
              clear hw7 cw cw6 fw fw6 g6 at6 o6 ST
              obtain ⟨h2, hh2⟩ : ∃ h : HC, h = { h1 with wA := A6, wn := h1.wn + hc.wn, wc := d6 } := ⟨_, rfl⟩
              obtain ⟨hs2, hhs2⟩ : ∃ z, z = hs.set I ({ h1 with wA := A6, wn := h1.wn + hc.wn, wc := d6 } : HC) := ⟨_, rfl⟩
              obtain ⟨y2, hy2⟩ : ∃ y : CL, y = { gI I xi with ws := xi.ws ++ x.ws } := ⟨_, rfl⟩
              have E2 : hs2[I]? = some h2 := by rw [hhs2, hh2, List.getElem?_set_self (by have := HHS.out; have := HQ1.out; omega)]
              have F2 : ((imTo l I (I + 1)).set I y2)[I]? = some y2 := by rw [List.getElem?_set_self (by have := HQ.out; have := HQ1.out; omega)]
              have I7b : InnC w7 w.heap.size w7.heap.size hs2 ((imTo l I (I + 1)).set I y2) := by rw [hhs2, hy2]; exact I7.out
              have O7b : Own hCV 2 w7 w.heap.size 57 (some ⟨g, 0, none⟩) q d hs2 := by rw [hhs2]; exact O7.out
              have YN : y2.ns = xi.ns.map (dn I) := by rw [hy2]; rfl
              have YW : y2.ws = xi.ws ++ x.ws := by rw [hy2]
              have HN : h2.nA = h1.nA ∧ h2.nn = h1.nn ∧ h2.nc = h1.nc := by rw [hh2]; exact ⟨rfl, rfl, rfl⟩
              have HE2 := Lib.hid E2
              have HF2 := Lib.hid F2
              have HI7 := Lib.hid I7b
              have HO7 := Lib.hid O7b
              have HYN := Lib.hid YN
              have HYW := Lib.hid YW
              have M1 : Hid (Own inV 1 w7 w.heap.size 3 h2.nA h2.nn h2.nc (xi.ns.map (dn I))) := by have h9 := HI7.out.n_ I h2 y2 HE2.out HF2.out; rw [HYN.out] at h9; exact h9
              have hnn2 : h2.nn ≤ 8 := by rw [HN.2.1]; exact hnn1
              have HS2 : Hid (hs2.length ≤ ((imTo l I (I + 1)).set I y2).length) := by show _ ≤ _; rw [List.length_set, HQ.out, HO7.out.len]; exact Nat.le_refl _
              have cn7 : w7.cell? ⟨g, I * 2 + 1, none⟩ = some (.slice h2.nA h2.nn h2.nc) := HO7.out.cell hCV_len (i := I) (j := 1) HE2.out rfl
              have hsz7 : w.heap.size ≤ w7.heap.size := T7.out.size
              have hMX : ((x.ns.map (dn I)).filter fun z => !(z == (I : Int))).length ≤ 8 := Nat.le_trans (List.length_filter_le _ _) (by rw [List.length_map, XN.out.len]; exact hns)
              clear hhs2 hh2 hy2 E2 F2 I7b O7b YN YW HN I7 O7 I6 OH6 N6 G6 T6 hz6 hz7
              go_wp2_with fail
              go_region_law (first
                | (go_simp
                   go_at_call 37
                   go_must (refine (without_any B2 hc.nn d2 (x.ns.map (dn I)) (I : Int) _ (by first | exact (N7.out.rd inV_len).drew | exact N7.out.rd inV_len) (by omega)).mono ?_)
                   go_must (rintro e w8x ⟨⟨B8, k8, d8, rfl, o8⟩, b8⟩)
                   have B8b : Below w7.heap.size w7 w8x := ⟨b8.os, b8.tape, b8.output, b8.size, b8.block⟩
                   go_must (have cn8 := cell_below B8b cn7)
                   go_must (have hk8 : k8 ≤ 8 := by rw [← o8.len]; exact hMX))
                | (refine step_pushAll_at rfl (.tmp 81) (.tmp 84) _ rfl w.heap.size 3 i0 (.int .i64 0) 1 8 Try.underlying38 iii iz0 iz1 iz2 rfl (by omega) inV inV_len one_intP h2.nA h2.nn h2.nc (xi.ns.map (dn I)) B8 k8 d8 ((x.ns.map (dn I)).filter fun z => !(z == (I : Int))) rfl rfl (h2.nn + k8) rfl (by simp only [maxLen]; omega) (by omega) (by have := B8b.size; omega) ?_ ?_ ?_
                   · exact M1.out.below B8b
                   · exact o8.rd inV_len
                   intro A9 d9 w9 o9 g9 at9
                   have cn9 : w9.cell? ⟨g, I * 2 + 1, none⟩ = some (.slice h2.nA h2.nn h2.nc) := ((HO7.out.below B8b).grown g9 ((HO7.out.below B8b).ne_block (M1.out.below B8b) (by decide))).cell hCV_len (i := I) (j := 1) HE2.out rfl
                   have fn9 : w9.frozen? ⟨g, I * 2 + 1, none⟩ = false := ((HO7.out.below B8b).grown g9 ((HO7.out.below B8b).ne_block (M1.out.below B8b) (by decide))).frozen (I * 2 + 1)))
              all_goals
                have M8 := Lib.hid (M1.out.below B8b)
                have OH9 := Lib.hid ((HO7.out.below B8b).grown g9 ((HO7.out.below B8b).ne_block M8.out (by decide)))
                have ST9 := Lib.hid (OH9.out.store hCV_len (i := I) (j := 1) HE2.out (by omega) ({ h2 with nA := A9, nn := h2.nn + k8, nc := d9 } : HC) (.slice A9 (h2.nn + k8) d9) rfl)
                have I9 := Lib.hid (((HI7.out.below B8b).top_le B8b.size).set_n HS2.out HE2.out HF2.out g9 o9 at9 g9.size)
                have T8 := Lib.hid (below_trans T7.out B8b)
                have T9 := Lib.hid (below_push T8.out M8.out g9 (Nat.le_refl _))
                have IA := Lib.hid ((I9.out.hdw OH9.out ST9.out.2).top_le ST9.out.2.size)
                have TA := Lib.hid (below_push T9.out OH9.out ST9.out.2 (Nat.le_refl _))
                have OA := Lib.hid ST9.out.1
                have EL : Hid (((imTo l I (I + 1)).set I y2).set I { y2 with ns := xi.ns.map (dn I) ++ ((x.ns.map (dn I)).filter fun z => !(z == (I : Int))) } = imTo l I (I + 1 + 1)) := by
                  show _ = _
                  rw [List.set_set, MID.out, wo_eq, HYW.out]
                clear cn7 cn8 cn9 fn9 g9 at9 o9 o8 I9 ST9 OH9 M8
                go_wp2
                go_roundw
                case rel => exact ⟨I + 1 + 1, by omega, by go_num, ⟨some ⟨g, 0, none⟩, q, d, _, rfl, OA.out, by rw [← EL.out, List.length_set, List.length_set]; exact HQ.out, by rw [← EL.out]; exact IA.out⟩, TA.out⟩
                case measure => first | (simp [intOf]; done) | (simp [intOf]; omega)
          · have hkI' : ((k : Int) != (I : Int) + 1) = true := by simp; omega
            have IM := Lib.hid (imTo_app HX.out hkI)
            have hl : hs.length = q := HO.out.len
            have g0 := G0.out
            have g0a := cell_below (below_alloc (w := wr) (.cells #[] 9)) G0.out
            go_wp2_with (first
              | (at_builtin
                 refine wpList_pushAll rfl (.tmp 55) (.tmp 57) _ rfl wr.heap.size 9 s0 (.string ByteArray.empty) 1 16 Try.underlying45 sii sz0 sz1 sz2 rfl (by omega) stV stV_len one_stJ _ 0 0 [] rfl (Own.empty stV 1 wr 9) hc.wA hc.wn hc.wc x.ws rfl ((XW.out.below t8).below (below_alloc _)) (by simp only [maxLen]; omega) (by omega) (by first | simp; done | (simp; omega)) ?_
                 intro B4 d4 w4 o4 g4
                 simp only [Nat.zero_add, List.nil_append] at o4
                 have b4 : Below wr.heap.size wr w4 := (below_alloc _).grown g4 (by simp) (fun k hk => by simp [blockOf] at hk; omega)
                 have O4 := Lib.hid o4
                 have OB4 := Lib.hid (OB.out.below b4)
                 have N4 := Lib.hid (O2.out.below b4)
                 have IB := Lib.hid ((HIN.out.ext (x := gI I x) (by rw [hl, HQ.out]; exact Nat.le_refl _)).snoc (x := gI I x) (h := ⟨B4, hc.wn, d4, B2, hc.nn, d2⟩) (top' := w4.heap.size) hl (by rw [List.getElem?_append_right (by rw [HQ.out]; exact Nat.le_refl _), HQ.out, Nat.sub_self]; rfl) (below_trans t8 b4) (Nat.le_trans t8.size b4.size) O4.out (Nat.le_trans hbw.size t8.size) t8.size (blk_lt O4.out) N4.out (Nat.le_trans hbw.size BS.out.size) BS.out.size (blk_lt N4.out))
                 have tw4 := below_trans tw b4
                 clear o4 g4)
              | (at_builtin
                 refine wpList_push rfl (.tmp 54) (.tmp 61) _ rfl w.heap.size 57 l0 (.agg #[.slice none 0 0, .slice none 0 0]) 2 48 Try.underlying24 lii lz0 lz1 lz2 rfl (by omega) hCV hCV_len one_hcJ B q d _ rfl OB4.out ⟨B4, hc.wn, d4, B2, hc.nn, d2⟩ _ rfl _ rfl (by first | rfl | simp) (by simp only [maxLen]; omega) (by omega) tw4.size ?_
                 intro B5 d5 w5 o5 g5
                 have O5 := Lib.hid o5
                 have I5 := Lib.hid ((IB.out.hdw OB4.out g5).top_le g5.size)
                 have T5 := Lib.hid (below_push tw4 OB4.out g5 (Nat.le_refl _))
                 clear o5 g5))
            go_roundw
            case rel => exact ⟨k + 1, by omega, by go_num, ⟨B5, q + 1, d5, _, rfl, O5.out, by rw [IM.out, List.length_append, HQ.out]; rfl, by rw [IM.out]; exact I5.out⟩, T5.out⟩
            case measure => first | (simp [intOf]; done) | (simp [intOf]; omega)
    · obtain rfl : k = n := by omega
      have hl : hs.length = q := HO.out.len
      have hq7 : q ≤ 8 := by
        have h9 := imTo_len (l := l) (i := I) (k := k) (by rw [HL.out]; omega) HI1.out
        rw [HQ.out] at h9
        split at h9 <;> omega
      obtain ⟨L, hL⟩ : ∃ L, L = imTo l I k := ⟨_, rfl⟩
      have HLL := Lib.hid hL
      rw [← hL] at HQ HIN
      clear hL hl
      have SZL : Hid (∀ x ∈ L, ClSz x) := by show ∀ x ∈ L, ClSz x; rw [HLL.out]; exact im_sz HV.out HG.out HI1.out
      have FINL : Hid (L.map srt = spTo l I l.length) := by show _ = _; rw [HLL.out, ← HL.out]; exact join_eq HV.out HI1.out
      have BNS : Hid (∀ x ∈ L, x.ns.length ≤ 16) := by show ∀ x ∈ L, _; rw [HLL.out]; exact im_nsz HV.out HI1.out
      clear HLL
      go_wp2
      go_loopw [91] (fun kv wr => ∃ j : Nat, j ≤ q ∧ kv = .int .i64 j ∧ (∃ hs, Own hCV 2 wr w.heap.size 57 B q d hs ∧ InnC wr w.heap.size wr.heap.size hs ((L.take j).map srt ++ L.drop j)) ∧ Below w.heap.size w wr) (fun kv _ => q - (intOf kv).toNat)
      case atStart => exact ⟨0, Nat.zero_le _, rfl, ⟨hs, HO.out, HIN.out⟩, hbw⟩
      case round =>
        clear HO HIN hbw
        obtain ⟨j, hj, rfl, ⟨hs, ho, hI⟩, hbw⟩ := hrel
        have HO := Lib.hid ho
        have HIN := Lib.hid hI
        clear ho hI
        have LEN : Hid (((L.take j).map srt ++ L.drop j).length = q) := by show _ = _; rw [List.length_append, List.length_map, List.length_take, List.length_drop, HQ.out]; omega
        by_cases hjq : j < q
        · obtain ⟨x, hx⟩ : ∃ x, L[j]? = some x := ⟨_, List.getElem?_eq_getElem (by rw [HQ.out]; exact hjq)⟩
          have HX : Hid (((L.take j).map srt ++ L.drop j)[j]? = some x) := by
            show _ = _
            rw [List.getElem?_append_right (by rw [List.length_map, List.length_take]; omega), List.length_map, List.length_take, List.getElem?_drop, HQ.out, Nat.min_eq_left (by omega)]
            rw [show j + (j - j) = j by omega]; exact hx
          have NXT : Hid (((L.take j).map srt ++ L.drop j).set j (srt x) = (L.take (j + 1)).map srt ++ L.drop (j + 1)) := by
            show _ = _
            have hjl : j < L.length := by rw [HQ.out]; exact hjq
            have hgx : L[j] = x := by rw [List.getElem?_eq_getElem hjl] at hx; injection hx
            have hlt : ((L.take j).map srt).length = j := by rw [List.length_map, List.length_take]; omega
            rw [List.set_append_right _ _ (by omega), hlt, Nat.sub_self, List.drop_eq_getElem_cons hjl, List.set_cons_zero, List.take_add_one, hx, List.map_append]
            simp
          obtain ⟨h1, hh1⟩ : ∃ h, hs[j]? = some h := ⟨_, List.getElem?_eq_getElem (by rw [HO.out.len]; exact hjq)⟩
          have HH1 := Lib.hid hh1
          obtain ⟨g, hBg⟩ := HO.out.form (by omega)
          subst hBg
          have N1 := Lib.hid (HIN.out.n_ j h1 x hh1 HX.out)
          have hn1 : h1.nn ≤ 16 := by rw [← N1.out.len]; exact BNS.out x (List.mem_of_getElem? hx)
          have NE := Lib.hid (HO.out.ne_block N1.out (by decide))
          have HSL : Hid (hs.length ≤ ((L.take j).map srt ++ L.drop j).length) := by show _ ≤ _; rw [LEN.out, HO.out.len]; exact Nat.le_refl _
          have cn := HO.out.cell hCV_len (i := j) (j := 1) hh1 rfl
          have hj0 : (0 : Int) ≤ (j : Int) := by omega
          have hjq' : (j : Int) < (q : Int) := by omega
          have hsz := hbw.size
          clear hh1 hx
          go_wp2_with (first
            | (go_at_call 38
               go_must (refine (sortG_any h1.nA h1.nn h1.nc w.heap.size x.ns _ N1.out (by omega)).mono ?_)
               rintro e w5 ⟨rfl, o5, g5⟩
               have cn5 := (HO.out.grown g5 NE.out).cell hCV_len (i := j) (j := 1) HH1.out rfl)
            | (go_at_call 39
               go_must (refine (compactG_any h1.nA h1.nn h1.nc w.heap.size _ _ o5).mono ?_)
               rintro e w6 ⟨⟨k6, rfl, o6⟩, g6⟩
               have G6 := Lib.hid (g5.trans g6)
               have OH6 := Lib.hid (HO.out.grown G6.out NE.out)
               have cn6 := OH6.out.cell hCV_len (i := j) (j := 1) HH1.out rfl
               have fn6 := OH6.out.frozen (j * 2 + 1)
               have ST := Lib.hid (OH6.out.store hCV_len (i := j) (j := 1) HH1.out (by omega) ({ h1 with nA := h1.nA, nn := k6, nc := h1.nc } : HC) (.slice h1.nA k6 h1.nc) rfl)
               have I6 := Lib.hid (HIN.out.set_n HSL.out HH1.out HX.out G6.out o6 (fun _ _ h => h) G6.out.size)
               have I7 := Lib.hid ((I6.out.hdw OH6.out ST.out.2).top_le ST.out.2.size)
               have T6 := Lib.hid (below_push hbw N1.out G6.out (Nat.le_refl _))
               have T7 := Lib.hid (below_push T6.out OH6.out ST.out.2 (Nat.le_refl _))
               clear g5 g6 o5 o6))
          go_roundw
          case rel => exact ⟨j + 1, by omega, by go_num, ⟨_, ST.out.1, by rw [← NXT.out]; exact I7.out⟩, T7.out⟩
          case measure => first | (simp [intOf]; done) | (simp [intOf]; omega)
        · obtain rfl : j = q := by omega
          have EF : Hid ((L.take j).map srt ++ L.drop j = spTo l I l.length) := by show _ = _; rw [List.take_of_length_le (by rw [HQ.out]; exact Nat.le_refl _), List.drop_of_length_le (by rw [HQ.out]; exact Nat.le_refl _), List.append_nil]; exact FINL.out
          have OC : Hid (OwnC wr w.heap.size wr.heap.size B j d hs (spTo l I l.length)) := ⟨HO.out, by rw [← EF.out]; exact LEN.out, by rw [← EF.out]; exact HIN.out, fun _ => blk_lt HO.out _⟩
          have SZ2 : Hid (∀ x ∈ spTo l I l.length, ClSz x) := by
            show ∀ x ∈ _, _
            rw [← FINL.out]
            intro x hx
            obtain ⟨y, hy, rfl⟩ := List.mem_map.1 hx
            exact fun s hs => SZL.out y hy s hs
          go_wp2_with fail
          refine (AreClauses_any B j d hs (spTo l I l.length) _ OC.out.rd SZ2.out).mono ?_
          rintro e w9 ⟨rfl, b9⟩
          have T9 := Lib.hid (below_trans hbw b9)
          cases hz : clsB (spTo l I l.length)
          · have E2 : Hid (joinL l (I : Int) = []) := by show _ = _; unfold joinL; rw [HJ.out, hz]; rfl
            rw [hz] at HJ
            go_wp2
            go_ret2
            exact ⟨⟨_, _, _, [], ret_sl_boolJ HJ.out.symm, by rw [E2.out]; exact OwnC.nil _ _ _⟩, T9.out⟩
          · have E2 : Hid (joinL l (I : Int) = spTo l I l.length) := by show _ = _; unfold joinL; rw [HJ.out, hz]; rfl
            rw [hz] at HJ
            go_wp2
            go_ret2
            exact ⟨⟨_, _, _, hs, ret_sl_boolJ HJ.out.symm, by rw [E2.out]; exact ⟨OC.out.hd.below b9, OC.out.len, (OC.out.inn.below b9).top_le b9.size, fun k hk => Nat.lt_of_lt_of_le (OC.out.th k hk) b9.size⟩⟩, T9.out⟩

end Go.Proofs.Ytndoapgalbljpaa
