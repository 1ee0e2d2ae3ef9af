/-
  YtndoapgalbljpaaDivS: JoinClauses, the reference's side, by contracts. (Printed by wip/gen/divs.py.)
-/
import Derived.Test.YtndoapgalbljpaaDivQ
import Derived.Test.YtndoapgalbljpaaDivE
import Derived.Deep.RegionLaw
import Derived.Deep.DeepCutAuto
namespace Go.Proofs.Ytndoapgalbljpaa
open Go Go.RowKit Go.Sort
set_option linter.unusedVariables false

theorem dnF_take {i o j : Nat} {ns : List Int} {y : Int} (h : ns[j]? = some y) : dnF i o (ns.take (j + 1)) = dnF i o (ns.take j) ++ dnF i o [y] := by rw [List.take_add_one, h, dnF_app]; rfl
theorem dnF_eqS {i o j : Nat} {ns : List Int} {y : Int} (h : ns[j]? = some y) (he : dn i y = (o : Int)) : putAll (dnF i o (ns.take (j + 1))) = putAll (dnF i o (ns.take j)) := by
  rw [dnF_take h]
  have : dnF i o [y] = [] := by simp [dnF, he]
  rw [this, List.append_nil]
theorem dnF_neS {i o j : Nat} {ns : List Int} {y : Int} (h : ns[j]? = some y) (he : dn i y ≠ (o : Int)) : putAll (dnF i o (ns.take (j + 1))) = putZ (dn i y) (putAll (dnF i o (ns.take j))) := by
  rw [dnF_take h]
  have : dnF i o [y] = [dn i y] := by simp [dnF, he]
  rw [this, putAll_snoc]
theorem putZ_len (x : Int) : ∀ l, (putZ x l).length ≤ l.length + 1
  | [] => by simp [putZ]
  | y :: t => by
    have := putZ_len x t
    unfold putZ
    split
    · simp only [List.length_cons]; omega
    · split <;> simp only [List.length_cons] <;> omega
theorem putAll_len (l : List Int) : (putAll l).length ≤ l.length := by
  have h : ∀ (l a : List Int), (l.foldl (fun a x => putZ x a) a).length ≤ a.length + l.length := by
    intro l
    induction l with
    | nil => intro a; simp
    | cons x t ih => intro a; have h1 := ih (putZ x a); have h2 := putZ_len x a; simp only [List.foldl_cons, List.length_cons]; omega
  have := h l []
  simpa [putAll] using this
theorem InnC.off_w {w w' : World} {base b' top : Nat} {hs : List HC} {l : List CL} {A : Option Addr} {n c : Nat} {r : List ByteArray} (h : InnC w base top hs l) (hO : Own stV 1 w b' 9 A n c r) (hg : w.grownBy w' (blockOf A)) (hlen : hs.length ≤ l.length) (hb : top ≤ b' := by exact Nat.le_refl _) : InnC w' base top hs l :=
  ⟨fun i k x h1 h2 => (h.w_ i k x h1 h2).grown hg (by
      by_cases hn : blockOf k.wA = none
      · exact .inl hn
      · exact .inr fun e => by
          obtain ⟨g, hgk⟩ := Option.ne_none_iff_exists'.1 hn
          have a1 := h.tw i k h1 g hgk
          have a2 := (hO.lt (e ▸ hgk)).1
          omega), fun i k x h1 h2 => (h.n_ i k x h1 h2).grown hg ((h.n_ i k x h1 h2).ne_block hO (by decide)), h.dw, h.dn, h.tw, h.tn⟩
theorem InnC.off_n {w w' : World} {base b' top : Nat} {hs : List HC} {l : List CL} {A : Option Addr} {n c : Nat} {r : List Int} (h : InnC w base top hs l) (hO : Own inV 1 w b' 3 A n c r) (hg : w.grownBy w' (blockOf A)) (hlen : hs.length ≤ l.length) (hb : top ≤ b' := by exact Nat.le_refl _) : InnC w' base top hs l :=
  ⟨fun i k x h1 h2 => (h.w_ i k x h1 h2).grown hg ((h.w_ i k x h1 h2).ne_block hO (by decide)), fun i k x h1 h2 => (h.n_ i k x h1 h2).grown hg (by
      by_cases hn : blockOf k.nA = none
      · exact .inl hn
      · exact .inr fun e => by
          obtain ⟨g, hgk⟩ := Option.ne_none_iff_exists'.1 hn
          have a1 := h.tn i k h1 g hgk
          have a2 := (hO.lt (e ▸ hgk)).1
          omega), h.dw, h.dn, h.tw, h.tn⟩
theorem Own.one {w : World} {base g : Nat} {h : HC} (hg : w.heap[g]? = some (.cells #[.slice h.wA h.wn h.wc, .slice h.nA h.nn h.nc] 57)) (hb : base ≤ g) : Own hCV 2 w base 57 (some ⟨g, 0, none⟩) 1 1 [h] :=
  ⟨rfl, rfl, .inr ⟨g, 1, #[.slice h.wA h.wn h.wc, .slice h.nA h.nn h.nc], rfl, hb, hg, Nat.le_refl _, by simp [maxLen], rfl, rfl⟩⟩

set_option maxRecDepth 100000 in
set_option maxHeartbeats 16000000 in
theorem specJoin_any (A : Option Addr) (n c : Nat) (hs0 : List HC) (l : List CL) (i : Int) (w : World) (ha : RdC w A n c hs0 l) (hg : ∀ x ∈ l, ClSz x) :
    Calls Try.prog 6 #[.slice A n c, .int .i64 i] w fun e w' => (∃ B q d hs, e = .returned (.tuple #[.slice B q d, .bool (joinG l i)]) ∧ OwnC w' w.heap.size w'.heap.size B q d hs (joinL l i)) ∧ Below w.heap.size w w' := by
  obtain ⟨l0, lii, lz0, lz1, lz2⟩ := info_parts Try.infoClJ
  obtain ⟨s0, sii, sz0, sz1, sz2⟩ := info_parts Try.infoStJ
  obtain ⟨i0, iii, iz0, iz1, iz2⟩ := info_parts Try.infoInP
  have HL := Lib.hid ha.len
  have HG := Lib.hid hg
  have hnn := ha.le
  have oO := Own.empty hCV 2 w 57
  have tO := below_alloc (w := w) (.cells #[] 57)
  cases h0 : joinG0 l i
  · have E1 : Hid (joinG l i = false) := by show _ = _; unfold joinG; rw [h0]; rfl
    have E2 : Hid (joinL l i = []) := by show _ = _; unfold joinL; rw [E1.out]; rfl
    cases hv : clsB l
    · have HV := Lib.hid hv
      clear hv h0
      go_enter Try.func6, Try.ntmps6
      go_wp2_with fail
      refine (l19Good_any _ _ _ _ _ _ (ha.below tO) hg).mono ?_
      rintro e w1 ⟨rfl, b1⟩
      rw [HV.out]
      go_wp2
      go_ret2
      exact ⟨⟨_, _, _, [], ret_sl_boolJ E1.out.symm, by rw [E2.out]; exact ⟨oO.below b1, rfl, InnC.nil _ _ _ _, fun _ => blk_lt (oO.below b1) _⟩⟩, below_trans tO b1⟩
    · have HV := Lib.hid hv
      have HI : Hid (inB i 0 ((n : Int) - 2) = false) := by
        show _ = _
        unfold joinG0 at h0
        rw [hv, Bool.true_and, HL.out] at h0
        exact h0
      have hn8 : n ≤ 8 := by rw [← HL.out]; exact cls_len hv
      clear hv h0
      go_enter Try.func6, Try.ntmps6
      go_wp2_with fail
      refine (l19Good_any _ _ _ _ _ _ (ha.below tO) hg).mono ?_
      rintro e w1 ⟨rfl, b1⟩
      rw [HV.out]
      go_wp2_with fail
      refine (l1In_any _ _ _ _).mono ?_
      rintro e w2 ⟨rfl, rfl⟩
      rw [HI.out]
      go_wp2
      go_ret2
      exact ⟨⟨_, _, _, [], ret_sl_boolJ E1.out.symm, by rw [E2.out]; exact ⟨oO.below b1, rfl, InnC.nil _ _ _ _, fun _ => blk_lt (oO.below b1) _⟩⟩, below_trans tO b1⟩
  obtain ⟨hv, I, rfl, hI1⟩ := joinG0_iff h0
  have HV := Lib.hid hv
  have hn8 : n ≤ 8 := by rw [← HL.out]; exact cls_len hv
  have hIn : I + 1 < n := by rw [← HL.out]; exact hI1
  have HI : Hid (inB (I : Int) 0 ((n : Int) - 2) = true) := Lib.hid (inB_t (by omega) (by omega))
  have HJ : Hid (joinG l (I : Int) = clsB (spTo l I l.length)) := by show _ = _; unfold joinG; rw [h0, Int.toNat_natCast, Bool.true_and]
  have HI1 := Lib.hid hI1
  clear hv h0
  go_enter Try.func6, Try.ntmps6
  go_wp2_with fail
  refine (l19Good_any _ _ _ _ _ _ (ha.below tO) hg).mono ?_
  rintro e w1 ⟨rfl, b1⟩
  rw [HV.out]
  go_wp2_with fail
  refine (l1In_any _ _ _ _).mono ?_
  rintro e w2 ⟨rfl, rfl⟩
  rw [HI.out]
  have oO1 := oO.below b1
  have tO1 := below_trans tO b1
  clear hg hI1 oO tO
  go_wp2
  go_loopw [6, 7] (fun v kv wr => ∃ k : Nat, k ≤ n ∧ kv = .int .i64 k ∧ SlotC wr w (spTo l I k) v ∧ Below w.heap.size w wr) (fun _ kv _ => n - (intOf kv).toNat)
  case atStart => exact ⟨0, Nat.zero_le _, rfl, ⟨_, 0, _, [], rfl, oO1, by rw [spTo_zero]; rfl, by rw [spTo_zero]; exact InnC.nil _ _ _ _⟩, tO1⟩
  case round =>
    clear oO1 tO1
    obtain ⟨k, hk, rfl, ⟨B, q, d, hs, rfl, ho, hql, hI⟩, hbw⟩ := hrel
    have HO := Lib.hid ho
    have HQ := Lib.hid hql
    have HIN := Lib.hid hI
    clear ho hql hI
    by_cases hlt : k < n
    · obtain ⟨b3, o3, hc, x, hAe, hx, hh, c0, c1, x0, x1⟩ := (ha.below hbw).at hlt
      obtain ⟨b5, o5, hc2, x2, hA2, hx2, hh2, e0, e1, y0, y1⟩ := ha.at hIn
      have h55 := hAe.symm.trans hA2
      injection h55 with h55
      injection h55 with h56 h57
      subst h56 h57
      clear hA2 hh2
      have HX := Lib.hid hx
      have HX2 := Lib.hid hx2
      have XW := Lib.hid x0
      have XN := Lib.hid x1
      have YW := Lib.hid y0
      have YN := Lib.hid y1
      have E0 := Lib.hid e0
      have E1 := Lib.hid e1
      have hns : hc.nn ≤ 8 := by rw [← x1.len]; exact ns_len HV.out hx
      have hws : hc.wn ≤ 5 := by rw [← x0.len]; exact (ws_ok HV.out hx).1
      have hns2 : hc2.nn ≤ 8 := by rw [← y1.len]; exact ns_len HV.out hx2
      have hws2 : hc2.wn ≤ 5 := by rw [← y0.len]; exact (ws_ok HV.out hx2).1
      have hnnc := x1.cap
      have hnnc2 := y1.cap
      have hqk : q = if k ≤ I + 1 then k else k - 1 := by
        have h9 := spTo_len (l := l) (i := I) (k := k) (by rw [HL.out]; omega) HI1.out
        rw [HQ.out] at h9
        exact h9
      have hq8 : q ≤ 8 := by split at hqk <;> omega
      have HQK := Lib.hid hqk
      clear hqk
      have hl : hs.length = q := HO.out.len
      obtain ⟨wv, hwv⟩ : ∃ wv : World, wv = wr := ⟨_, rfl⟩
      subst hwv
      have hzw := hbw.size
      have hinn : hs.length ≤ (spTo l I k).length := by rw [HQ.out, hl]; exact Nat.le_refl _
      have hneB : ∀ g, wv.heap.size ≤ g → blockOf B ≠ some g := fun g hg h => by have := blk_lt HO.out g h; omega
      rw [hAe]
      have HAE := Lib.hid hAe
      have c0a := cell_below (below_alloc (w := wv) (.cells #[] 9)) c0
      clear hx hh x0 x1 hAe hx2 y0 y1 e0 e1
      by_cases hkI1 : k = I + 1
      · subst hkI1
        have hkt : (((I + 1 : Nat) : Int) == (I : Int) + 1) = true := by simp
        have SK := Lib.hid (spTo_skip l I)
        go_wp2_with (first
          | (at_builtin
             refine wpList_pushAll rfl (.tmp 31) (.tmp 36) _ rfl wv.heap.size 9 s0 (.string ByteArray.empty) 1 16 Try.underlying45 sii sz0 sz1 sz2 rfl (by omega) stV stV_len one_stJ _ 0 0 [] rfl (Own.empty stV 1 wv 9) hc.wA hc.wn hc.wc x.ws rfl (XW.out.below (below_alloc _)) (by simp only [maxLen]; omega) (by omega) (by first | simp; done | (simp; omega)) ?_
             intro B4 d4 w4 o4 g4
             simp only [Nat.zero_add, List.nil_append] at o4
             have b4 : Below wv.heap.size wv w4 := (below_alloc _).grown g4 (by simp) (fun k hk => by simp [blockOf] at hk; omega)
             have t4 := below_trans b4 (below_alloc (w := w4) (.cells #[.slice B4 hc.wn d4, .slice none 0 0] 57))
             have c14 := cell_below t4 c1)
          | (go_at_call 33
             go_must (refine (l1Own_any hc.nA hc.nn hc.nc x.ns _ (XN.out.below t4) (by omega)).mono ?_)
             rintro e w9 ⟨⟨BN, dN, rfl, oN⟩, bN⟩
             have t9 := below_trans t4 bN
             have hz4 := b4.size
             have hz9 := t4.size
             have OX := Lib.hid ((Own.one (base := wv.heap.size) (h := ⟨B4, hc.wn, d4, none, 0, 0⟩) (heap_new rfl) b4.size).below bN)
             have OW := Lib.hid ((o4.below (below_alloc _)).below bN)
             have ON := Lib.hid (oN.base_le hz9)
             have BV9 := Lib.hid t9
             have T9 := Lib.hid (below_trans hbw t9)
             have hz99 := t9.size
             clear o4 g4 oN bN b4 c0a c14 t9 t4 c0 c1)
          | fail)
        go_wp2
        go_roundw
        case rel => exact ⟨I + 1 + 1, by omega, by go_num, ⟨B, q, d, hs, rfl, HO.out.below BV9.out, by rw [SK.out]; exact HQ.out, by rw [SK.out]; exact (HIN.out.below BV9.out).top_le hz99⟩, T9.out⟩
        case measure => first | (simp [intOf]; done) | (simp [intOf]; omega)
      · have hkt : ((k : Int) == (I : Int) + 1) = false := by simp; omega
        by_cases hkI : k = I
        · subst hkI
          have hkk : (((k : Nat) : Int) == ((k : Nat) : Int)) = true := by simp
          have hqI : Hid (q = k) := by show _ = _; have hqk := HQK.out; split at hqk <;> omega
          have SP : Hid (spTo l k (k + 1) = spTo l k k ++ [⟨x.ws ++ x2.ws, putAll (dnF k q (x.ns ++ x2.ns))⟩]) := by
            show _ = _
            rw [spTo_eq, hqI.out]; unfold mgS; rw [at2_of HX.out, at2_of HX2.out]
          go_wp2_with (first
            | (at_builtin
               refine wpList_pushAll rfl (.tmp 31) (.tmp 36) _ rfl wv.heap.size 9 s0 (.string ByteArray.empty) 1 16 Try.underlying45 sii sz0 sz1 sz2 rfl (by omega) stV stV_len one_stJ _ 0 0 [] rfl (Own.empty stV 1 wv 9) hc.wA hc.wn hc.wc x.ws rfl (XW.out.below (below_alloc _)) (by simp only [maxLen]; omega) (by omega) (by first | simp; done | (simp; omega)) ?_
               intro B4 d4 w4 o4 g4
               simp only [Nat.zero_add, List.nil_append] at o4
               have b4 : Below wv.heap.size wv w4 := (below_alloc _).grown g4 (by simp) (fun k hk => by simp [blockOf] at hk; omega)
               have t4 := below_trans b4 (below_alloc (w := w4) (.cells #[.slice B4 hc.wn d4, .slice none 0 0] 57))
               have c14 := cell_below t4 c1)
            | (go_at_call 33
               go_must (refine (l1Own_any hc.nA hc.nn hc.nc x.ns _ (XN.out.below t4) (by omega)).mono ?_)
               rintro e w9 ⟨⟨BN, dN, rfl, oN⟩, bN⟩
               have t9 := below_trans t4 bN
               have hz4 := b4.size
               have hz9 := t4.size
               have OX := Lib.hid ((Own.one (base := wv.heap.size) (h := ⟨B4, hc.wn, d4, none, 0, 0⟩) (heap_new rfl) b4.size).below bN)
               have OW := Lib.hid ((o4.below (below_alloc _)).below bN)
               have ON := Lib.hid (oN.base_le hz9)
               have BV9 := Lib.hid t9
               have T9 := Lib.hid (below_trans hbw t9)
               have hz99 := t9.size
               clear o4 g4 oN bN b4 c0a c14 t9 t4 c0 c1)
            | fail)
          have cx0 : w9.cell? ⟨w4.heap.size, 0, none⟩ = some (.slice B4 hc.wn d4) := OX.out.cell hCV_len (i := 0) (j := 0) rfl rfl
          have fx0 : w9.frozen? ⟨w4.heap.size, 0, none⟩ = false := OX.out.frozen 0
          have e09 := cell_below T9.out E0.out
          have hwr : IntKind.i64.wrap ((k : Int) + 1) = ((k + 1 : Nat) : Int) := by rw [IntWalk.i64_in _ (by omega)]; simp
          have hk0 : (0 : Int) ≤ (k : Int) + 1 := by omega
          have hk1 : (k : Int) + 1 < (n : Int) := by omega
          go_wp2_with fail
          go_region_law (first
            | (refine step_pushAll_at rfl (.tmp 53) (.tmp 59) _ rfl wv.heap.size 9 s0 (.string ByteArray.empty) 1 16 Try.underlying45 sii sz0 sz1 sz2 rfl (by omega) stV stV_len one_stJ B4 hc.wn d4 x.ws hc2.wA hc2.wn hc2.wc x2.ws rfl rfl (hc.wn + hc2.wn) rfl (by simp only [maxLen]; omega) (by omega) (by first | exact hz99 | (simp; exact hz99)) ?_ ?_ ?_
               · first | exact OW.out.drew | exact OW.out
               · first | exact (YW.out.below T9.out).drew | exact YW.out.below T9.out
               intro A6 d6 w6 o6 g6 at6
               have OX6 := Lib.hid (OX.out.grown g6.undrew (OX.out.ne_block OW.out (by decide)))
               have cx6 : w6.cell? ⟨w4.heap.size, 0, none⟩ = some (.slice B4 hc.wn d4) := OX6.out.cell hCV_len (i := 0) (j := 0) rfl rfl
               have fx6 : w6.frozen? ⟨w4.heap.size, 0, none⟩ = false := OX6.out.frozen 0))
          all_goals
            have G6 := Lib.hid g6.undrew
            have ST : Hid (Own hCV 2 (w6.setCell ⟨w4.heap.size, 0, none⟩ (.slice A6 (hc.wn + hc2.wn) d6)) wv.heap.size 57 (some ⟨w4.heap.size, 0, none⟩) 1 1 [⟨A6, hc.wn + hc2.wn, d6, none, 0, 0⟩] ∧ w6.grownBy (w6.setCell ⟨w4.heap.size, 0, none⟩ (.slice A6 (hc.wn + hc2.wn) d6)) (some w4.heap.size)) := OX6.out.store hCV_len (i := 0) (j := 0) rfl (by omega) (⟨A6, hc.wn + hc2.wn, d6, none, 0, 0⟩ : HC) (.slice A6 (hc.wn + hc2.wn) d6) rfl
            have OW7 := Lib.hid (o6.grown ST.out.2 (o6.ne_block OX6.out (by decide)))
            have ON7 := Lib.hid ((ON.out.grown G6.out (ON.out.ne_block OW.out (by decide))).grown ST.out.2 ((ON.out.grown G6.out (ON.out.ne_block OW.out (by decide))).ne_block OX6.out (by decide)))
            have BV6 := Lib.hid (below_push BV9.out OW.out G6.out (Nat.le_refl _))
            have BV7 := Lib.hid (below_push BV6.out OX6.out ST.out.2 (Nat.le_refl _))
            have T7 := Lib.hid (below_trans hbw BV7.out)
            have OX7 := Lib.hid ST.out.1
            have hz97 : wv.heap.size ≤ (w6.setCell ⟨w4.heap.size, 0, none⟩ (.slice A6 (hc.wn + hc2.wn) d6)).heap.size := Nat.le_trans hz99 (Nat.le_trans G6.out.size ST.out.2.size)
            generalize hw7 : w6.setCell ⟨w4.heap.size, 0, none⟩ (.slice A6 (hc.wn + hc2.wn) d6) = w7 at *
            have e17 := cell_below T7.out E1.out
            clear hw7 cx6 fx6 cx0 fx0 e09 g6 at6 o6 ST OX6 G6 BV6
            go_wp2_with (at_builtin; refine wpList_pushAll rfl (.tmp 62) (.tmp 68) _ rfl wv.heap.size 3 i0 (.int .i64 0) 1 8 Try.underlying38 iii iz0 iz1 iz2 rfl (by omega) inV inV_len one_intP BN hc.nn dN x.ns rfl ON7.out hc2.nA hc2.nn hc2.nc x2.ns rfl (YN.out.below T7.out) (by simp only [maxLen]; omega) (by omega) hz97 ?_; intro A8 d8 w8 o8 g8)
            have OX8 := Lib.hid (OX7.out.grown g8 (OX7.out.ne_block ON7.out (by decide)))
            have OW8 := Lib.hid (OW7.out.grown g8 (OW7.out.ne_block ON7.out (by decide)))
            have BV8 := Lib.hid (below_push BV7.out ON7.out g8 (Nat.le_refl _))
            have ON8 := Lib.hid o8
            clear o8 g8 e17
            go_loopw [10] (fun jv wr => ∃ j : Nat, j ≤ (hc.nn + hc2.nn) ∧ jv = .int .i64 j ∧ (∃ Bx qx dx, qx ≤ 16 ∧ Own hCV 2 wr wv.heap.size 57 (some ⟨w4.heap.size, 0, none⟩) 1 1 [⟨A6, hc.wn + hc2.wn, d6, Bx, qx, dx⟩] ∧ Own inV 1 wr wv.heap.size 3 Bx qx dx (putAll (dnF k q ((x.ns ++ x2.ns).take j)))) ∧ Own stV 1 wr wv.heap.size 9 A6 (hc.wn + hc2.wn) d6 (x.ws ++ x2.ws) ∧ Own inV 1 wr wv.heap.size 3 A8 ((hc.nn + hc2.nn)) d8 (x.ns ++ x2.ns) ∧ Below wv.heap.size wv wr) (fun jv _ => (hc.nn + hc2.nn) - (intOf jv).toNat)
            case atStart => exact ⟨0, Nat.zero_le _, rfl, ⟨none, 0, 0, by omega, OX8.out, by rw [List.take_zero]; exact Own.nil _ _ _⟩, OW8.out, ON8.out, BV8.out⟩
            case round =>
              clear OX8 OW8 ON8 BV8
              obtain ⟨j, hj, rfl, ⟨Bx, qx, dx, hqx, ox, ob⟩, ow, on, bV⟩ := hrel
              have OX := Lib.hid ox
              have OBX := Lib.hid ob
              have OW := Lib.hid ow
              have ON := Lib.hid on
              have BV := Lib.hid bV
              have hzv := bV.size
              clear ox ob ow on bV
              by_cases hjn : j < (hc.nn + hc2.nn)
              · obtain ⟨b4, o4, y, hAy, hy, d1⟩ := (ON.out.rd inV_len).in hjn
                have HY := Lib.hid hy
                have hyb : (0 : Int) ≤ y ∧ y ≤ 8 := by rcases List.mem_append.1 (List.mem_of_getElem? hy) with h | h; exact (by have := ns_bd HV.out HX.out h; omega); exact (by have := ns_bd HV.out HX2.out h; omega)
                have hy0 := hyb.1
                have hy1 := hyb.2
                have ONY : Hid (Own inV 1 wr wv.heap.size 3 (some ⟨b4, o4, none⟩) ((hc.nn + hc2.nn)) d8 (x.ns ++ x2.ns)) := by show Own _ _ _ _ _ _ _ _ _; rw [← hAy]; exact ON.out
                rw [hAy]
                have HAY := Lib.hid hAy
                clear hy hAy hyb
                have hj0 : (0 : Int) ≤ (j : Int) := by omega
                have hjn' : (j : Int) < (((hc.nn + hc2.nn) : Nat) : Int) := by omega
                have cx1 : wr.cell? ⟨w4.heap.size, 1, none⟩ = some (.slice Bx qx dx) := OX.out.cell hCV_len (i := 0) (j := 1) rfl rfl
                by_cases hyI : (k : Int) < y
                · have ED := Lib.hid (dn_gt hyI)
                  by_cases hyq : y - 1 = (q : Int)
                  · have hyt : ((y - 1) != (q : Int)) = false := by simp; omega
                    have NX := Lib.hid (dnF_eqS (i := k) (o := q) HY.out (by rw [ED.out]; exact hyq))
                    go_wp2
                    go_roundw
                    case rel => exact ⟨j + 1, by omega, by go_num, ⟨Bx, qx, dx, hqx, OX.out, by rw [NX.out]; exact OBX.out⟩, OW.out, ONY.out, BV.out⟩
                    case measure => first | (simp [intOf]; done) | (simp [intOf]; omega)
                  · have hyt : ((y - 1) != (q : Int)) = true := by simp; omega
                    have NX := Lib.hid (dnF_neS (i := k) (o := q) HY.out (by rw [ED.out]; exact hyq))
                    go_wp2_with (
                      go_at_call 34
                      go_must (refine (l1Put_any Bx qx dx wv.heap.size _ (y - 1) _ OBX.out (by omega) hzv).mono ?_)
                      rintro e w5 ⟨⟨B5, q5, d5, rfl, o5⟩, b5⟩
                      have OX5 := Lib.hid (OX.out.below b5)
                      have cx5 := cell_below b5 cx1
                      have fx5 : w5.frozen? ⟨w4.heap.size, 1, none⟩ = false := OX5.out.frozen 1
                      have ST : Hid (Own hCV 2 (w5.setCell ⟨w4.heap.size, 1, none⟩ (.slice B5 q5 d5)) wv.heap.size 57 (some ⟨w4.heap.size, 0, none⟩) 1 1 [⟨A6, hc.wn + hc2.wn, d6, B5, q5, d5⟩] ∧ w5.grownBy (w5.setCell ⟨w4.heap.size, 1, none⟩ (.slice B5 q5 d5)) (some w4.heap.size)) := OX5.out.store hCV_len (i := 0) (j := 1) rfl (by omega) (⟨A6, hc.wn + hc2.wn, d6, B5, q5, d5⟩ : HC) (.slice B5 q5 d5) rfl
                      have OW5 := Lib.hid (OW.out.below b5)
                      have ON5 := Lib.hid (ONY.out.below b5)
                      have BV5 := Lib.hid (below_trans BV.out b5)
                      have O5 : Hid (Own inV 1 w5 wv.heap.size 3 B5 q5 d5 (putAll (dnF k q ((x.ns ++ x2.ns).take (j + 1))))) := by show Own _ _ _ _ _ _ _ _ _; rw [NX.out, ED.out]; exact o5
                      have hq5 : q5 ≤ 16 := by
                        have a1 := O5.out.len
                        have a2 := putAll_len (dnF k q ((x.ns ++ x2.ns).take (j + 1)))
                        have a3 : (dnF k q ((x.ns ++ x2.ns).take (j + 1))).length ≤ j + 1 := Nat.le_trans (List.length_filter_le _ _) (by rw [List.length_map, List.length_take]; omega)
                        omega
                      have hz5 := b5.size
                      have hz6 := ST.out.2.size)
                    go_roundw
                    case rel => exact ⟨j + 1, by omega, by go_num, ⟨B5, q5, d5, hq5, ST.out.1, O5.out.grown ST.out.2 (O5.out.ne_block OX5.out (by decide))⟩, OW5.out.grown ST.out.2 (OW5.out.ne_block OX5.out (by decide)), ON5.out.grown ST.out.2 (ON5.out.ne_block OX5.out (by decide)), below_push BV5.out OX5.out ST.out.2 (Nat.le_refl _)⟩
                    case measure => first | (simp [intOf]; done) | (simp [intOf]; omega)
                · have ED := Lib.hid (dn_le hyI)
                  by_cases hyq : y = (q : Int)
                  · have hyt : ((y) != (q : Int)) = false := by simp; omega
                    have NX := Lib.hid (dnF_eqS (i := k) (o := q) HY.out (by rw [ED.out]; exact hyq))
                    go_wp2
                    go_roundw
                    case rel => exact ⟨j + 1, by omega, by go_num, ⟨Bx, qx, dx, hqx, OX.out, by rw [NX.out]; exact OBX.out⟩, OW.out, ONY.out, BV.out⟩
                    case measure => first | (simp [intOf]; done) | (simp [intOf]; omega)
                  · have hyt : ((y) != (q : Int)) = true := by simp; omega
                    have NX := Lib.hid (dnF_neS (i := k) (o := q) HY.out (by rw [ED.out]; exact hyq))
                    go_wp2_with (
                      go_at_call 34
                      go_must (refine (l1Put_any Bx qx dx wv.heap.size _ (y) _ OBX.out (by omega) hzv).mono ?_)
                      rintro e w5 ⟨⟨B5, q5, d5, rfl, o5⟩, b5⟩
                      have OX5 := Lib.hid (OX.out.below b5)
                      have cx5 := cell_below b5 cx1
                      have fx5 : w5.frozen? ⟨w4.heap.size, 1, none⟩ = false := OX5.out.frozen 1
                      have ST : Hid (Own hCV 2 (w5.setCell ⟨w4.heap.size, 1, none⟩ (.slice B5 q5 d5)) wv.heap.size 57 (some ⟨w4.heap.size, 0, none⟩) 1 1 [⟨A6, hc.wn + hc2.wn, d6, B5, q5, d5⟩] ∧ w5.grownBy (w5.setCell ⟨w4.heap.size, 1, none⟩ (.slice B5 q5 d5)) (some w4.heap.size)) := OX5.out.store hCV_len (i := 0) (j := 1) rfl (by omega) (⟨A6, hc.wn + hc2.wn, d6, B5, q5, d5⟩ : HC) (.slice B5 q5 d5) rfl
                      have OW5 := Lib.hid (OW.out.below b5)
                      have ON5 := Lib.hid (ONY.out.below b5)
                      have BV5 := Lib.hid (below_trans BV.out b5)
                      have O5 : Hid (Own inV 1 w5 wv.heap.size 3 B5 q5 d5 (putAll (dnF k q ((x.ns ++ x2.ns).take (j + 1))))) := by show Own _ _ _ _ _ _ _ _ _; rw [NX.out, ED.out]; exact o5
                      have hq5 : q5 ≤ 16 := by
                        have a1 := O5.out.len
                        have a2 := putAll_len (dnF k q ((x.ns ++ x2.ns).take (j + 1)))
                        have a3 : (dnF k q ((x.ns ++ x2.ns).take (j + 1))).length ≤ j + 1 := Nat.le_trans (List.length_filter_le _ _) (by rw [List.length_map, List.length_take]; omega)
                        omega
                      have hz5 := b5.size
                      have hz6 := ST.out.2.size)
                    go_roundw
                    case rel => exact ⟨j + 1, by omega, by go_num, ⟨B5, q5, d5, hq5, ST.out.1, O5.out.grown ST.out.2 (O5.out.ne_block OX5.out (by decide))⟩, OW5.out.grown ST.out.2 (OW5.out.ne_block OX5.out (by decide)), ON5.out.grown ST.out.2 (ON5.out.ne_block OX5.out (by decide)), below_push BV5.out OX5.out ST.out.2 (Nat.le_refl _)⟩
                    case measure => first | (simp [intOf]; done) | (simp [intOf]; omega)
              · obtain rfl : j = (hc.nn + hc2.nn) := by omega
                have ET : Hid ((x.ns ++ x2.ns).take ((hc.nn + hc2.nn)) = x.ns ++ x2.ns) := by show _ = _; rw [List.take_of_length_le (by rw [ON.out.len]; exact Nat.le_refl _)]
                have OZ : Hid (Own inV 1 wr wv.heap.size 3 Bx qx dx (putAll (dnF k q (x.ns ++ x2.ns)))) := by have h9 := OBX.out; rw [ET.out] at h9; exact h9
                have cx0 : wr.cell? ⟨w4.heap.size, 0, none⟩ = some (.slice A6 (hc.wn + hc2.wn) d6) := OX.out.cell hCV_len (i := 0) (j := 0) rfl rfl
                have cx1 : wr.cell? ⟨w4.heap.size, 1, none⟩ = some (.slice Bx qx dx) := OX.out.cell hCV_len (i := 0) (j := 1) rfl rfl
                have OB := Lib.hid (HO.out.below BV.out)
                have TW := Lib.hid (below_trans hbw BV.out)
                have IB := Lib.hid ((HIN.out.ext (x := ⟨x.ws ++ x2.ws, putAll (dnF k q (x.ns ++ x2.ns))⟩) (by rw [hl, HQ.out]; exact Nat.le_refl _)).snoc (x := ⟨x.ws ++ x2.ws, putAll (dnF k q (x.ns ++ x2.ns))⟩) (h := ⟨A6, hc.wn + hc2.wn, d6, Bx, qx, dx⟩) (top' := wr.heap.size) hl (by rw [List.getElem?_append_right (by rw [HQ.out]; exact Nat.le_refl _), HQ.out, Nat.sub_self]; rfl) BV.out hzv OW.out hzw (Nat.le_refl _) (blk_lt OW.out) OZ.out hzw (Nat.le_refl _) (blk_lt OZ.out))
                go_wp2_with (
                  at_builtin
                  refine wpList_push rfl (.tmp 94) (.tmp 96) _ rfl w.heap.size 57 l0 (.agg #[.slice none 0 0, .slice none 0 0]) 2 48 Try.underlying24 lii lz0 lz1 lz2 rfl (by omega) hCV hCV_len one_hcJ B q d _ rfl OB.out ⟨A6, hc.wn + hc2.wn, d6, Bx, qx, dx⟩ _ rfl _ rfl (by first | rfl | simp) (by simp only [maxLen]; omega) (by omega) TW.out.size ?_
                  intro B5 d5 w5 o5 g5
                  have O5 := Lib.hid o5
                  have I5 := Lib.hid ((IB.out.hdw OB.out g5).top_le g5.size)
                  have T5 := Lib.hid (below_push TW.out OB.out g5 (Nat.le_refl _))
                  clear o5 g5)
                go_roundw
                case rel => exact ⟨k + 1, by omega, by go_num, ⟨B5, q + 1, d5, _, rfl, O5.out, by rw [SP.out, List.length_append, HQ.out]; rfl, by rw [SP.out]; exact I5.out⟩, T5.out⟩
                case measure => first | (simp [intOf]; done) | (simp [intOf]; omega)
        · have hkk : ((k : Int) == (I : Int)) = false := by simp; omega
          have SP : Hid (spTo l I (k + 1) = spTo l I k ++ [⟨x.ws, putAll (dnF I q x.ns)⟩]) := by
            show _ = _
            by_cases h8 : k < I
            · have hqq : q = k := by have hqk := HQK.out; split at hqk <;> omega
              rw [spTo_lt HX.out h8, hqq, dnF_lt HV.out HX.out h8]; rfl
            · have hqq : q = k - 1 := by have hqk := HQK.out; split at hqk <;> omega
              rw [spTo_gt HX.out (by omega), hqq, dnF_gt HV.out HX.out (by omega)]; rfl
          go_wp2_with (first
            | (at_builtin
               refine wpList_pushAll rfl (.tmp 31) (.tmp 36) _ rfl wv.heap.size 9 s0 (.string ByteArray.empty) 1 16 Try.underlying45 sii sz0 sz1 sz2 rfl (by omega) stV stV_len one_stJ _ 0 0 [] rfl (Own.empty stV 1 wv 9) hc.wA hc.wn hc.wc x.ws rfl (XW.out.below (below_alloc _)) (by simp only [maxLen]; omega) (by omega) (by first | simp; done | (simp; omega)) ?_
               intro B4 d4 w4 o4 g4
               simp only [Nat.zero_add, List.nil_append] at o4
               have b4 : Below wv.heap.size wv w4 := (below_alloc _).grown g4 (by simp) (fun k hk => by simp [blockOf] at hk; omega)
               have t4 := below_trans b4 (below_alloc (w := w4) (.cells #[.slice B4 hc.wn d4, .slice none 0 0] 57))
               have c14 := cell_below t4 c1)
            | (go_at_call 33
               go_must (refine (l1Own_any hc.nA hc.nn hc.nc x.ns _ (XN.out.below t4) (by omega)).mono ?_)
               rintro e w9 ⟨⟨BN, dN, rfl, oN⟩, bN⟩
               have t9 := below_trans t4 bN
               have hz4 := b4.size
               have hz9 := t4.size
               have OX := Lib.hid ((Own.one (base := wv.heap.size) (h := ⟨B4, hc.wn, d4, none, 0, 0⟩) (heap_new rfl) b4.size).below bN)
               have OW := Lib.hid ((o4.below (below_alloc _)).below bN)
               have ON := Lib.hid (oN.base_le hz9)
               have BV9 := Lib.hid t9
               have T9 := Lib.hid (below_trans hbw t9)
               have hz99 := t9.size
               clear o4 g4 oN bN b4 c0a c14 t9 t4 c0 c1)
            | fail)
          go_wp2
          go_loopw [10] (fun jv wr => ∃ j : Nat, j ≤ hc.nn ∧ jv = .int .i64 j ∧ (∃ Bx qx dx, qx ≤ 16 ∧ Own hCV 2 wr wv.heap.size 57 (some ⟨w4.heap.size, 0, none⟩) 1 1 [⟨B4, hc.wn, d4, Bx, qx, dx⟩] ∧ Own inV 1 wr wv.heap.size 3 Bx qx dx (putAll (dnF I q ((x.ns).take j)))) ∧ Own stV 1 wr wv.heap.size 9 B4 (hc.wn) d4 (x.ws) ∧ Own inV 1 wr wv.heap.size 3 BN (hc.nn) dN (x.ns) ∧ Below wv.heap.size wv wr) (fun jv _ => hc.nn - (intOf jv).toNat)
          case atStart => exact ⟨0, Nat.zero_le _, rfl, ⟨none, 0, 0, by omega, OX.out, by rw [List.take_zero]; exact Own.nil _ _ _⟩, OW.out, ON.out, BV9.out⟩
          case round =>
            clear OX OW ON BV9
            obtain ⟨j, hj, rfl, ⟨Bx, qx, dx, hqx, ox, ob⟩, ow, on, bV⟩ := hrel
            have OX := Lib.hid ox
            have OBX := Lib.hid ob
            have OW := Lib.hid ow
            have ON := Lib.hid on
            have BV := Lib.hid bV
            have hzv := bV.size
            clear ox ob ow on bV
            by_cases hjn : j < hc.nn
            · obtain ⟨b4, o4, y, hAy, hy, d1⟩ := (ON.out.rd inV_len).in hjn
              have HY := Lib.hid hy
              have hyb : (0 : Int) ≤ y ∧ y ≤ 8 := by have := ns_bd HV.out HX.out (List.mem_of_getElem? hy); omega
              have hy0 := hyb.1
              have hy1 := hyb.2
              have ONY : Hid (Own inV 1 wr wv.heap.size 3 (some ⟨b4, o4, none⟩) (hc.nn) dN (x.ns)) := by show Own _ _ _ _ _ _ _ _ _; rw [← hAy]; exact ON.out
              rw [hAy]
              have HAY := Lib.hid hAy
              clear hy hAy hyb
              have hj0 : (0 : Int) ≤ (j : Int) := by omega
              have hjn' : (j : Int) < ((hc.nn : Nat) : Int) := by omega
              have cx1 : wr.cell? ⟨w4.heap.size, 1, none⟩ = some (.slice Bx qx dx) := OX.out.cell hCV_len (i := 0) (j := 1) rfl rfl
              by_cases hyI : (I : Int) < y
              · have ED := Lib.hid (dn_gt hyI)
                by_cases hyq : y - 1 = (q : Int)
                · have hyt : ((y - 1) != (q : Int)) = false := by simp; omega
                  have NX := Lib.hid (dnF_eqS (i := I) (o := q) HY.out (by rw [ED.out]; exact hyq))
                  go_wp2
                  go_roundw
                  case rel => exact ⟨j + 1, by omega, by go_num, ⟨Bx, qx, dx, hqx, OX.out, by rw [NX.out]; exact OBX.out⟩, OW.out, ONY.out, BV.out⟩
                  case measure => first | (simp [intOf]; done) | (simp [intOf]; omega)
                · have hyt : ((y - 1) != (q : Int)) = true := by simp; omega
                  have NX := Lib.hid (dnF_neS (i := I) (o := q) HY.out (by rw [ED.out]; exact hyq))
                  go_wp2_with (
                    go_at_call 34
                    go_must (refine (l1Put_any Bx qx dx wv.heap.size _ (y - 1) _ OBX.out (by omega) hzv).mono ?_)
                    rintro e w5 ⟨⟨B5, q5, d5, rfl, o5⟩, b5⟩
                    have OX5 := Lib.hid (OX.out.below b5)
                    have cx5 := cell_below b5 cx1
                    have fx5 : w5.frozen? ⟨w4.heap.size, 1, none⟩ = false := OX5.out.frozen 1
                    have ST : Hid (Own hCV 2 (w5.setCell ⟨w4.heap.size, 1, none⟩ (.slice B5 q5 d5)) wv.heap.size 57 (some ⟨w4.heap.size, 0, none⟩) 1 1 [⟨B4, hc.wn, d4, B5, q5, d5⟩] ∧ w5.grownBy (w5.setCell ⟨w4.heap.size, 1, none⟩ (.slice B5 q5 d5)) (some w4.heap.size)) := OX5.out.store hCV_len (i := 0) (j := 1) rfl (by omega) (⟨B4, hc.wn, d4, B5, q5, d5⟩ : HC) (.slice B5 q5 d5) rfl
                    have OW5 := Lib.hid (OW.out.below b5)
                    have ON5 := Lib.hid (ONY.out.below b5)
                    have BV5 := Lib.hid (below_trans BV.out b5)
                    have O5 : Hid (Own inV 1 w5 wv.heap.size 3 B5 q5 d5 (putAll (dnF I q ((x.ns).take (j + 1))))) := by show Own _ _ _ _ _ _ _ _ _; rw [NX.out, ED.out]; exact o5
                    have hq5 : q5 ≤ 16 := by
                      have a1 := O5.out.len
                      have a2 := putAll_len (dnF I q ((x.ns).take (j + 1)))
                      have a3 : (dnF I q ((x.ns).take (j + 1))).length ≤ j + 1 := Nat.le_trans (List.length_filter_le _ _) (by rw [List.length_map, List.length_take]; omega)
                      omega
                    have hz5 := b5.size
                    have hz6 := ST.out.2.size)
                  go_roundw
                  case rel => exact ⟨j + 1, by omega, by go_num, ⟨B5, q5, d5, hq5, ST.out.1, O5.out.grown ST.out.2 (O5.out.ne_block OX5.out (by decide))⟩, OW5.out.grown ST.out.2 (OW5.out.ne_block OX5.out (by decide)), ON5.out.grown ST.out.2 (ON5.out.ne_block OX5.out (by decide)), below_push BV5.out OX5.out ST.out.2 (Nat.le_refl _)⟩
                  case measure => first | (simp [intOf]; done) | (simp [intOf]; omega)
              · have ED := Lib.hid (dn_le hyI)
                by_cases hyq : y = (q : Int)
                · have hyt : ((y) != (q : Int)) = false := by simp; omega
                  have NX := Lib.hid (dnF_eqS (i := I) (o := q) HY.out (by rw [ED.out]; exact hyq))
                  go_wp2
                  go_roundw
                  case rel => exact ⟨j + 1, by omega, by go_num, ⟨Bx, qx, dx, hqx, OX.out, by rw [NX.out]; exact OBX.out⟩, OW.out, ONY.out, BV.out⟩
                  case measure => first | (simp [intOf]; done) | (simp [intOf]; omega)
                · have hyt : ((y) != (q : Int)) = true := by simp; omega
                  have NX := Lib.hid (dnF_neS (i := I) (o := q) HY.out (by rw [ED.out]; exact hyq))
                  go_wp2_with (
                    go_at_call 34
                    go_must (refine (l1Put_any Bx qx dx wv.heap.size _ (y) _ OBX.out (by omega) hzv).mono ?_)
                    rintro e w5 ⟨⟨B5, q5, d5, rfl, o5⟩, b5⟩
                    have OX5 := Lib.hid (OX.out.below b5)
                    have cx5 := cell_below b5 cx1
                    have fx5 : w5.frozen? ⟨w4.heap.size, 1, none⟩ = false := OX5.out.frozen 1
                    have ST : Hid (Own hCV 2 (w5.setCell ⟨w4.heap.size, 1, none⟩ (.slice B5 q5 d5)) wv.heap.size 57 (some ⟨w4.heap.size, 0, none⟩) 1 1 [⟨B4, hc.wn, d4, B5, q5, d5⟩] ∧ w5.grownBy (w5.setCell ⟨w4.heap.size, 1, none⟩ (.slice B5 q5 d5)) (some w4.heap.size)) := OX5.out.store hCV_len (i := 0) (j := 1) rfl (by omega) (⟨B4, hc.wn, d4, B5, q5, d5⟩ : HC) (.slice B5 q5 d5) rfl
                    have OW5 := Lib.hid (OW.out.below b5)
                    have ON5 := Lib.hid (ONY.out.below b5)
                    have BV5 := Lib.hid (below_trans BV.out b5)
                    have O5 : Hid (Own inV 1 w5 wv.heap.size 3 B5 q5 d5 (putAll (dnF I q ((x.ns).take (j + 1))))) := by show Own _ _ _ _ _ _ _ _ _; rw [NX.out, ED.out]; exact o5
                    have hq5 : q5 ≤ 16 := by
                      have a1 := O5.out.len
                      have a2 := putAll_len (dnF I q ((x.ns).take (j + 1)))
                      have a3 : (dnF I q ((x.ns).take (j + 1))).length ≤ j + 1 := Nat.le_trans (List.length_filter_le _ _) (by rw [List.length_map, List.length_take]; omega)
                      omega
                    have hz5 := b5.size
                    have hz6 := ST.out.2.size)
                  go_roundw
                  case rel => exact ⟨j + 1, by omega, by go_num, ⟨B5, q5, d5, hq5, ST.out.1, O5.out.grown ST.out.2 (O5.out.ne_block OX5.out (by decide))⟩, OW5.out.grown ST.out.2 (OW5.out.ne_block OX5.out (by decide)), ON5.out.grown ST.out.2 (ON5.out.ne_block OX5.out (by decide)), below_push BV5.out OX5.out ST.out.2 (Nat.le_refl _)⟩
                  case measure => first | (simp [intOf]; done) | (simp [intOf]; omega)
            · obtain rfl : j = hc.nn := by omega
              have ET : Hid ((x.ns).take (hc.nn) = x.ns) := by show _ = _; rw [List.take_of_length_le (by rw [ON.out.len]; exact Nat.le_refl _)]
              have OZ : Hid (Own inV 1 wr wv.heap.size 3 Bx qx dx (putAll (dnF I q (x.ns)))) := by have h9 := OBX.out; rw [ET.out] at h9; exact h9
              have cx0 : wr.cell? ⟨w4.heap.size, 0, none⟩ = some (.slice B4 (hc.wn) d4) := OX.out.cell hCV_len (i := 0) (j := 0) rfl rfl
              have cx1 : wr.cell? ⟨w4.heap.size, 1, none⟩ = some (.slice Bx qx dx) := OX.out.cell hCV_len (i := 0) (j := 1) rfl rfl
              have OB := Lib.hid (HO.out.below BV.out)
              have TW := Lib.hid (below_trans hbw BV.out)
              have IB := Lib.hid ((HIN.out.ext (x := ⟨x.ws, putAll (dnF I q (x.ns))⟩) (by rw [hl, HQ.out]; exact Nat.le_refl _)).snoc (x := ⟨x.ws, putAll (dnF I q (x.ns))⟩) (h := ⟨B4, hc.wn, d4, Bx, qx, dx⟩) (top' := wr.heap.size) hl (by rw [List.getElem?_append_right (by rw [HQ.out]; exact Nat.le_refl _), HQ.out, Nat.sub_self]; rfl) BV.out hzv OW.out hzw (Nat.le_refl _) (blk_lt OW.out) OZ.out hzw (Nat.le_refl _) (blk_lt OZ.out))
              go_wp2_with (
                at_builtin
                refine wpList_push rfl (.tmp 94) (.tmp 96) _ rfl w.heap.size 57 l0 (.agg #[.slice none 0 0, .slice none 0 0]) 2 48 Try.underlying24 lii lz0 lz1 lz2 rfl (by omega) hCV hCV_len one_hcJ B q d _ rfl OB.out ⟨B4, hc.wn, d4, Bx, qx, dx⟩ _ rfl _ rfl (by first | rfl | simp) (by simp only [maxLen]; omega) (by omega) TW.out.size ?_
                intro B5 d5 w5 o5 g5
                have O5 := Lib.hid o5
                have I5 := Lib.hid ((IB.out.hdw OB.out g5).top_le g5.size)
                have T5 := Lib.hid (below_push TW.out OB.out g5 (Nat.le_refl _))
                clear o5 g5)
              go_roundw
              case rel => exact ⟨k + 1, by omega, by go_num, ⟨B5, q + 1, d5, _, rfl, O5.out, by rw [SP.out, List.length_append, HQ.out]; rfl, by rw [SP.out]; exact I5.out⟩, T5.out⟩
              case measure => first | (simp [intOf]; done) | (simp [intOf]; omega)
    · obtain rfl : k = n := by omega
      have OC : Hid (OwnC wr w.heap.size wr.heap.size B q d hs (spTo l I k)) := ⟨HO.out, HQ.out, HIN.out, fun _ => blk_lt HO.out _⟩
      have EN : Hid (k = l.length) := Lib.hid HL.out.symm
      have SZ2 : Hid (∀ x ∈ spTo l I k, ClSz x) := by
        show ∀ x ∈ _, _
        rw [EN.out, ← join_eq HV.out HI1.out]
        intro x hx
        obtain ⟨y, hy, rfl⟩ := List.mem_map.1 hx
        exact fun s hs => im_sz HV.out HG.out HI1.out y hy s hs
      clear HO HQ HIN
      go_wp2_with fail
      refine (l19Good_any B q d hs (spTo l I k) _ OC.out.rd SZ2.out).mono ?_
      rintro e w9 ⟨rfl, b9⟩
      have T9 := Lib.hid (below_trans hbw b9)
      cases hz : clsB (spTo l I k)
      · have E1 : Hid (joinG l (I : Int) = false) := by show _ = _; rw [HJ.out, ← EN.out, hz]
        have E2 : Hid (joinL l (I : Int) = []) := by show _ = _; unfold joinL; rw [E1.out]; rfl
        go_wp2
        go_ret2
        have oE := (Own.empty hCV 2 w9 57).base_le T9.out.size
        exact ⟨⟨_, _, _, [], ret_sl_boolJ E1.out.symm, by rw [E2.out]; exact ⟨oE, rfl, InnC.nil _ _ _ _, fun _ => blk_lt oE _⟩⟩, below_trans T9.out (below_alloc _)⟩
      · have E1 : Hid (joinG l (I : Int) = true) := by show _ = _; rw [HJ.out, ← EN.out, hz]
        have E2 : Hid (joinL l (I : Int) = spTo l I k) := by show _ = _; unfold joinL; rw [E1.out]; rw [EN.out]; rfl
        go_wp2
        go_ret2
        exact ⟨⟨_, _, _, hs, ret_sl_boolJ E1.out.symm, by rw [E2.out]; exact ⟨OC.out.hd.below b9, OC.out.len, (OC.out.inn.below b9).top_le b9.size, fun k hk => Nat.lt_of_lt_of_le (OC.out.th k hk) b9.size⟩⟩, T9.out⟩

end Go.Proofs.Ytndoapgalbljpaa
