/-
  YtmmogpbbehgkiaaMovB: slices.CompactFunc at the pairs of the call's own: the library's two loops are walked.
-/
import Derived.Test.YtmmogpbbehgkiaaMovA
import Derived.IntWalk
namespace Go.Proofs.Ytmmogpbbehgkiaa
open Go Go.RowKit Go.Sort
set_option linter.unusedVariables false

theorem below_drewB (w : World) (k : Nat) : Below w.heap.size w (w.drewN k) := ⟨rfl, rfl, rfl, Nat.le_refl _, fun i _ => rfl⟩
theorem PairIn.drewN {w : World} {g : Nat} {p : PP} (h : PairIn w g p) (k : Nat) : PairIn (w.drewN k) g p := ⟨h.rd.below (below_drewB w k), h.ok, h.ne⟩
theorem grown_drewB {w w' : World} {row : Option Nat} (h : w.grownBy w' row) (k : Nat) : w.grownBy (w'.drewN k) row := grown_below h (below_drewB w' k)
theorem Own.drewB {α : Type} {enc : α → List Value} {sz : Nat} {w : World} {base : Nat} {e : TypeId} {A : Option Addr} {n c : Nat} {l : List α} (h : Own enc sz w base e A n c l) (k : Nat) : Own enc sz (w.drewN k) base e A n c l := h.below (below_drewB w k)
/-- slices.Equal at two pairs. -/
theorem eqPair_any (p q : PP) (g : Nat) (w : World) (hp : PairIn w g p) (hq : PairIn w g q) :
    Calls Try.prog 35 #[hvV p.1, hvV q.1] w fun e w' => e = .returned (.bool (decide (keyQ p = keyQ q))) ∧ ∃ d, w' = w.drewN d := by
  have E : decide (keyQ p = keyQ q) = (p.2 == q.2) := by
    unfold keyQ
    rw [Bool.eq_iff_iff, decide_eq_true_eq, beq_iff_eq]
    exact ⟨keyP_inj hp.ok hq.ok, fun e => by rw [e]⟩
  rw [E]
  have n1 := hp.two
  have n2 := hq.two
  have R1 := hp.rd
  have R2 := hq.rd
  obtain ⟨⟨A1, m1, c1⟩, l1⟩ := p
  obtain ⟨⟨A2, m2, c2⟩, l2⟩ := q
  simp only at n1 n2 R1 R2 ⊢
  subst n1 n2
  obtain ⟨b1, o1, rfl, h1⟩ := R1.at_ (by omega)
  obtain ⟨b2, o2, rfl, h2⟩ := R2.at_ (by omega)
  have g1 : ∀ j, j < l1.length → w.cell? ⟨b1, o1 + j, none⟩ = some (.int .i64 (l1.getD j 0)) := fun j hj => by
    have := h1 j l1[j] (List.getElem?_eq_getElem hj) 0 _ rfl
    rw [Nat.mul_one, Nat.add_zero] at this
    rw [this, List.getD_eq_getElem?_getD, List.getElem?_eq_getElem hj]; rfl
  have g2 : ∀ j, j < l2.length → w.cell? ⟨b2, o2 + j, none⟩ = some (.int .i64 (l2.getD j 0)) := fun j hj => by
    have := h2 j l2[j] (List.getElem?_eq_getElem hj) 0 _ rfl
    rw [Nat.mul_one, Nat.add_zero] at this
    rw [this, List.getD_eq_getElem?_getD, List.getElem?_eq_getElem hj]; rfl
  have hcon := Try.slices_Equal_int b1 o1 2 c1 b2 o2 2 c2 l1 l2 w (by rw [R1.len]; exact Nat.le_refl _) (by rw [R2.len]; exact Nat.le_refl _) (by omega) (by omega) g1 g2
  rw [List.take_of_length_le (by rw [R1.len]; exact Nat.le_refl _), List.take_of_length_le (by rw [R2.len]; exact Nat.le_refl _)] at hcon
  exact hcon

theorem eqPairB_any (p q : PP) (g : Nat) (b : Bool) (w : World) (E : decide (keyQ p = keyQ q) = b) (hp : PairIn w g p) (hq : PairIn w g q) :
    Calls Try.prog 35 #[.slice p.1.pA p.1.pn p.1.pc, .slice q.1.pA q.1.pn q.1.pc] w fun e w' => e = .returned (.bool b) ∧ ∃ d, w' = w.drewN d := by
  subst E
  exact eqPair_any p q g w hp hq

theorem Rd.dropB {α : Type} {enc : α → List Value} {sz : Nat} {w : World} {b o n c : Nat} {l : List α} (h : Rd enc sz w (some ⟨b, o, none⟩) n c l) {k : Nat} (hk : k ≤ n) : Rd enc sz w (some ⟨b, o + k * sz, none⟩) (n - k) (c - k) (l.drop k) := by
  have h1 := h.cap
  have h2 := h.max
  refine ⟨by rw [List.length_drop, h.len], by omega, by omega, (fun e => by cases e), fun h0 => ?_⟩
  obtain ⟨b', o', e, hc⟩ := h.at_ (by omega)
  injection e with e
  injection e with e1 e2
  subst e1 e2
  refine ⟨b, o + k * sz, rfl, fun i x hx j u hu => ?_⟩
  rw [List.getElem?_drop] at hx
  have := hc (k + i) x hx j u hu
  rw [Nat.add_mul] at this
  rw [← this]
  congr 2
  omega

/-! ### a row cut short, its tail cleared -/
theorem flat_take {α : Type} {enc : α → List Value} {sz : Nat} (he : ∀ x, (enc x).length = sz) (l : List α) (k : Nat) (hk : k ≤ l.length) : (l.flatMap enc).take (k * sz) = (l.take k).flatMap enc := by
  conv => lhs; rw [← List.take_append_drop k l, List.flatMap_append]
  rw [List.take_left' (by rw [flat_len he, List.length_take, Nat.min_eq_left hk])]
theorem Own.cut {α : Type} {enc : α → List Value} {sz : Nat} {w : World} {base : Nat} {e : TypeId} {g n c : Nat} {l : List α} (h : Own enc sz w base e (some ⟨g, 0, none⟩) n c l) (he : ∀ x, (enc x).length = sz) {k : Nat} (hk : k ≤ n) : Own enc sz w base e (some ⟨g, 0, none⟩) k c (l.take k) := by
  have hn := h.len
  refine ⟨by rw [List.length_take]; omega, by rw [flat_len he, List.length_take, Nat.min_eq_left (by omega)], ?_⟩
  rcases h.row.2 with ⟨h0, _⟩ | ⟨g', cap, cur, hv, hb, hh, h1, h2, h3, h4⟩
  · cases h0
  · injection hv with a1 a2 a3
    injection a1 with a1
    injection a1 with a1
    subst a1 a3
    refine .inr ⟨g, c, cur, rfl, hb, hh, by omega, h2, h3, ?_⟩
    rw [← flat_take he l k (by omega), ← h4, List.take_take, Nat.min_eq_left (Nat.mul_le_mul_right _ hk)]
theorem Own.poke {α : Type} {enc : α → List Value} {sz : Nat} {w : World} {base : Nat} {e : TypeId} {g n c : Nat} {l : List α} (h : Own enc sz w base e (some ⟨g, 0, none⟩) n c l) (j : Nat) (hj : n * sz ≤ j) (u : Value) : Own enc sz (w.setCell ⟨g, j, none⟩ u) base e (some ⟨g, 0, none⟩) n c l := by
  obtain ⟨h1, _⟩ := h.row.stored j u
  rw [List.set_eq_of_length_le (by rw [h.row.1]; exact hj)] at h1
  exact ⟨h.len, h1⟩
theorem Own.pokes {α : Type} {enc : α → List Value} {sz : Nat} {base : Nat} {e : TypeId} {g n c : Nat} {l : List α} : ∀ (vs : List Value) (j : Nat) (w : World), Own enc sz w base e (some ⟨g, 0, none⟩) n c l → n * sz ≤ j → Own enc sz (w.setCells g j vs) base e (some ⟨g, 0, none⟩) n c l
  | [], _, _, h, _ => h
  | v :: r, j, w, h, hj => Own.pokes r (j + 1) _ (h.poke j hj v) (by omega)
theorem grown_setCells (b : Nat) : ∀ (vs : List Value) (o : Nat) (w : World), w.grownBy (w.setCells b o vs) (some b)
  | [], _, w => World.grownBy.refl _ _
  | v :: r, o, w => by
    have h : w.grownBy (w.setCell ⟨b, o, none⟩ v) (some b) := ⟨rfl, rfl, rfl, by simp, fun i hi hne => Below.heap_setCell _ _ _ _ (fun e => hne (by rw [e]))⟩
    exact grown_trans h (grown_setCells b r (o + 1) _)
theorem setGrown (w : World) (b o : Nat) (v : Value) : w.grownBy (w.setCell ⟨b, o, none⟩ v) (some b) := ⟨rfl, rfl, rfl, by simp, fun i hi hne => Below.heap_setCell _ _ _ _ (fun e => hne (by rw [e]))⟩

theorem keep_lt1 (ds : List PP) : ∀ j, j < 1 → keepB keyQ ds j = true
  | 0, _ => rfl
  | j + 1, h => absurd h (by omega)

set_option maxRecDepth 1000000 in
set_option maxHeartbeats 8000000 in
theorem compactPairs_any (g n c base : Nat) (ds : List PP) (w : World) (ho : Own hIV 1 w base 37 (some ⟨g, 0, none⟩) n c (ds.map (·.1))) (hp : ∀ p ∈ ds, PairIn w g p) (hn : n ≤ 1048576) :
    Calls Try.prog 34 #[.slice (some ⟨g, 0, none⟩) n c, .func (.func 35) #[] #[]] w fun e w' => (∃ k, e = .returned (.slice (some ⟨g, 0, none⟩) k c) ∧ Own hIV 1 w' base 37 (some ⟨g, 0, none⟩) k c ((cmpTo keyQ ds n).map (·.1))) ∧ w.grownBy w' (some g) := by
  have hlen : ds.length = n := by have := ho.len; rwa [List.length_map] at this
  have hcap := (ho.rd hIV_len).cap
  have HLEN := Lib.hid hlen
  have HP := Lib.hid hp
  have HO := Lib.hid ho
  have ALL : Hid (∀ k, k ≤ n → (∀ j, j < k → keepB keyQ ds j = true) → cmpTo keyQ ds k = ds.take k) := fun k hk h => cmpTo_all k (by rw [hlen]; exact hk) h
  clear ho hp hlen
  by_cases h2 : n < 2
  · have E : Hid (cmpTo keyQ ds n = ds) := by
      show _ = _
      rw [ALL.out n (Nat.le_refl _) (fun j hj => keep_lt1 ds j (Nat.lt_of_lt_of_le hj (by omega))), List.take_of_length_le (by rw [HLEN.out]; exact Nat.le_refl _)]
    go_enter Try.func34, Try.ntmps34
    go_wp2
    go_ret
    exact ⟨⟨_, rfl, by rw [E.out]; exact HO.out⟩, World.grownBy.refl _ _⟩
  · go_enter Try.func34, Try.ntmps34
    go_wp2
    go_loopg [5] n (fun gg s5 wr => ∃ k : Nat, 1 ≤ k ∧ k ≤ n ∧ n - k ≤ gg ∧ s5 = .int .i64 k ∧ Own hIV 1 wr base 37 (some ⟨g, 0, none⟩) n c (ds.map (·.1)) ∧ w.grownBy wr (some g) ∧ ∀ j, j < k → keepB keyQ ds j = true)
    case atStart => exact ⟨1, Nat.le_refl _, by omega, by omega, rfl, HO.out, World.grownBy.refl _ _, keep_lt1 ds⟩
    case round =>
      obtain ⟨k, hk1, hk, hg, rfl, ho, hgw, hall⟩ := hrel
      have A1 := Lib.hid hall
      have HO1 := Lib.hid ho
      clear hall
      by_cases hlt : k < n
      · obtain ⟨z, rfl⟩ : ∃ z, k = z + 1 := ⟨k - 1, by omega⟩
        obtain ⟨p, hpx⟩ : ∃ p, ds[z + 1]? = some p := ⟨_, List.getElem?_eq_getElem (by rw [HLEN.out]; exact hlt)⟩
        obtain ⟨p', hpy⟩ : ∃ p', ds[z]? = some p' := ⟨_, List.getElem?_eq_getElem (by rw [HLEN.out]; omega)⟩
        have c1 := ho.cell hIV_len (i := z + 1) (j := 0) (by rw [List.getElem?_map, hpx]; rfl) rfl
        have c0 := ho.cell hIV_len (i := z) (j := 0) (by rw [List.getElem?_map, hpy]; rfl) rfl
        simp only [Nat.mul_one, Nat.add_zero] at c1 c0
        have P1 := Lib.hid ((HP.out p (List.mem_of_getElem? hpx)).far hgw)
        have P0 := Lib.hid ((HP.out p' (List.mem_of_getElem? hpy)).far hgw)
        have KB := Lib.hid (keepB_at (key := keyQ) hpx (by omega) (by rw [show z + 1 - 1 = z from rfl]; exact hpy))
        have HX := Lib.hid hpx
        have hzi : ((z + 1 : Nat) : Int) - 1 = (z : Int) := by omega
        have hzi2 : ((z : Int) + 1) - 1 = (z : Int) := by omega
        have hncap : ¬ c = z + 1 := by omega
        have hb0 : (0 : Int) ≤ (z : Int) + 1 := by omega
        have hb1 : (z : Int) + 1 < (n : Int) := by omega
        have hb2 : (0 : Int) ≤ (z : Int) := by omega
        have hb3 : (z : Int) < (n : Int) := by omega
        clear hpx hpy ho
        cases hdup : decide (keyQ p = keyQ p')
        · -- two keys: on
          have E := Lib.hid hdup
          go_wp2_with fail
          have hwz : IntKind.i64.wrap (z : Int) = (z : Int) := IntWalk.i64_in _ (by omega)
          go_quiet ((go_at_call 35; exact Calls.quiet_of (eqPairB_any p p' g _ _ E.out (P1.out.drewN _) (P0.out.drewN _))))
          clear hwz
          go_wp2
          go_roundg (n - (z + 1 + 1))
          case measure => omega
          case rel =>
            refine ⟨z + 1 + 1, by omega, by omega, Nat.le_refl _, by go_num, HO1.out.drewB _, grown_drewB hgw _, fun j hj => ?_⟩
            by_cases e : j = z + 1
            · rw [e, KB.out, hdup]; rfl
            · exact A1.out j (by omega)
        · -- one key twice: the second loop
          have E := Lib.hid hdup
          have ST : Hid (cmpTo keyQ ds (z + 1 + 1) = ds.take (z + 1)) := by
            show _ = _
            rw [cmpTo_no (by rw [KB.out, hdup]; rfl), ALL.out (z + 1) (by omega) A1.out]
          go_wp2_with fail
          have hwz : IntKind.i64.wrap (z : Int) = (z : Int) := IntWalk.i64_in _ (by omega)
          go_quiet ((go_at_call 35; exact Calls.quiet_of (eqPairB_any p p' g _ _ E.out (P1.out.drewN _) (P0.out.drewN _))))
          clear hwz
          have hgw2 := grown_drewB hgw nq
          have HO2 := Lib.hid (HO1.out.drewB nq)
          generalize hwq : wr.drewN nq = wq at *
          clear hwq c0 c1 HO1 P1 P0 hgw hdup hzi hzi2 hb0 hb1 hb2 hb3
          obtain ⟨k, hkz⟩ : ∃ k, k = z + 1 := ⟨_, rfl⟩
          have hz1 : ((z : Int) + 1) = (k : Int) := by omega
          have hz2 : ((z + 1 : Nat) : Int) = (k : Int) := by omega
          first | rw [hz1] | rw [hz2]
          rw [← hkz] at ST hncap hlt hk hg
          rw [← hkz] at A1 HX KB
          clear hz1 hz2 hkz hk1
          have hk1 : 1 ≤ k + 1 := by omega
          have hkd : (k : Int) ≤ (c : Int) := by omega
          have hkn : (k : Int) ≤ (n : Int) := by omega
          have hk0 : (0 : Int) ≤ (k : Int) := by omega
          go_wp2
          have hcd0 : (0 : Int) < (c : Int) := by omega
          have HK := Lib.hid hk1
          go_loopg [5, 7] n (fun gg s5 s7 wr => ∃ kk k2 : Nat, s5 = .int .i64 kk ∧ s7 = .int .i64 k2 ∧ 1 ≤ k2 ∧ k + k2 ≤ n ∧ n - (k + k2) ≤ gg ∧ kk < k + k2 ∧ (cmpTo keyQ ds (k + k2)).length = kk ∧ Own hIV 1 wr base 37 (some ⟨g, 0, none⟩) n c ((cmpTo keyQ ds (k + k2) ++ ds.drop kk).map (·.1)) ∧ w.grownBy wr (some g))
          case atStart =>
            refine ⟨k, 1, rfl, rfl, Nat.le_refl _, by omega, by omega, by omega, ?_, ?_, hgw2⟩
            · rw [ST.out, List.length_take, HLEN.out]; omega
            · rw [ST.out, List.take_append_drop]; exact HO2.out
          case round =>
            clear HO2 hgw2 ST
            obtain ⟨kk, k2, rfl, rfl, h1, hle, hg2, hkk, hC, ho, hgw⟩ := hrel
            have HC := Lib.hid hC
            have HO := Lib.hid ho
            clear hC
            by_cases hlt2 : k + k2 < n
            · obtain ⟨z, rfl⟩ : ∃ z, k2 = z + 1 := ⟨k2 - 1, by omega⟩
              obtain ⟨p1, hp1⟩ : ∃ p, ds[k + (z + 1)]? = some p := ⟨_, List.getElem?_eq_getElem (by rw [HLEN.out]; exact hlt2)⟩
              obtain ⟨p0, hp0⟩ : ∃ p, ds[k + z]? = some p := ⟨_, List.getElem?_eq_getElem (by rw [HLEN.out]; omega)⟩
              obtain ⟨pk, hpk⟩ : ∃ p, ds[kk]? = some p := ⟨_, List.getElem?_eq_getElem (by rw [HLEN.out]; omega)⟩
              have c1 := ho.cell hIV_len (i := k + (z + 1)) (j := 0) (by rw [List.getElem?_map, keep_get HC.out (by omega), hp1]; rfl) rfl
              have c0 := ho.cell hIV_len (i := k + z) (j := 0) (by rw [List.getElem?_map, keep_get HC.out (by omega), hp0]; rfl) rfl
              have ck := ho.cell hIV_len (i := kk) (j := 0) (by rw [List.getElem?_map, keep_get HC.out (Nat.le_refl _), hpk]; rfl) rfl
              have STO := Lib.hid (ho.store hIV_len (i := kk) (j := 0) (by rw [List.getElem?_map, keep_get HC.out (Nat.le_refl _), hpk]; rfl) (by omega) p1.1 (hvV p1.1) rfl)
              have fk := ho.frozen kk
              simp only [Nat.mul_one, Nat.add_zero] at c1 c0 ck
              have Q1 := Lib.hid ((HP.out p1 (List.mem_of_getElem? hp1)).far hgw)
              have Q0 := Lib.hid ((HP.out p0 (List.mem_of_getElem? hp0)).far hgw)
              have KB2 := Lib.hid (keepB_at (key := keyQ) hp1 (by omega) (by rw [show k + (z + 1) - 1 = k + z from by omega]; exact hp0))
              have HX1 := Lib.hid hp1
              have PK : Hid ((ds[kk]?).map (·.1) = some pk.1) := by show _ = _; rw [hpk]; rfl
              have hz0 : (0 : Int) ≤ (z : Int) := by omega
              have hz1 : (0 : Int) ≤ (z : Int) + 1 := by omega
              have hz2 : (z : Int) + 1 < ((n - k : Nat) : Int) := by omega
              have hz3 : (z : Int) < ((n - k : Nat) : Int) := by omega
              have hkk0 : (0 : Int) ≤ (kk : Int) := by omega
              have hkk1 : (kk : Int) < (n : Int) := by omega
              have hkn2 : kk < n := by omega
              clear hp1 hp0 hpk ho
              cases hd2 : decide (keyQ p1 = keyQ p0)
              · have E2 := Lib.hid hd2
                have NX : Hid (cmpTo keyQ ds (k + (z + 1 + 1)) = cmpTo keyQ ds (k + (z + 1)) ++ [p1]) := by
                  show _ = _
                  rw [show k + (z + 1 + 1) = k + (z + 1) + 1 from rfl, cmpTo_yes HX1.out (by rw [KB2.out, hd2]; rfl)]
                clear hd2 KB2 HX1
                go_wp2_with fail
                have hwz : IntKind.i64.wrap (z : Int) = (z : Int) := IntWalk.i64_in _ (by omega)
                go_quiet ((go_at_call 35; exact Calls.quiet_of (eqPairB_any p1 p0 g _ _ E2.out (Q1.out.drewN _) (Q0.out.drewN _))))
                clear hwz
                have hgw2 := grown_drewB hgw nq
                have STQ := Lib.hid ((HO.out.drewB nq).store hIV_len (i := kk) (j := 0) (x := pk.1) (by have h9 := STO.out.1.len; rw [List.getElem?_map, keep_get HC.out (Nat.le_refl _)]; exact PK.out) (by omega) p1.1 (hvV p1.1) rfl)
                have d1 := cell_below (below_drewB wr nq) c1
                have dk := cell_below (below_drewB wr nq) ck
                have fq := (HO.out.drewB nq).frozen kk
                generalize hwq : wr.drewN nq = wq at *
                clear hwq c1 c0 ck fk STO HO
                go_wp2
                have O9 := STQ.out.1
                have G9 := STQ.out.2
                simp only [Nat.mul_one, Nat.add_zero] at O9 G9
                go_roundg (n - (k + (z + 1 + 1)))
                case measure => omega
                case rel =>
                  refine ⟨kk + 1, z + 1 + 1, by go_num, by go_num, by omega, by omega, Nat.le_refl _, by omega, ?_, ?_, grown_trans hgw2 G9⟩
                  · rw [NX.out, List.length_append, HC.out]; rfl
                  · rw [NX.out, ← keep_set HC.out (by rw [HLEN.out]; exact hkn2), List.map_set]; exact O9
              · have E2 := Lib.hid hd2
                have NX : Hid (cmpTo keyQ ds (k + (z + 1 + 1)) = cmpTo keyQ ds (k + (z + 1))) := by
                  show _ = _
                  rw [show k + (z + 1 + 1) = k + (z + 1) + 1 from rfl, cmpTo_no (by rw [KB2.out, hd2]; rfl)]
                clear hd2 KB2 HX1
                go_wp2_with fail
                have hwz : IntKind.i64.wrap (z : Int) = (z : Int) := IntWalk.i64_in _ (by omega)
                go_quiet ((go_at_call 35; exact Calls.quiet_of (eqPairB_any p1 p0 g _ _ E2.out (Q1.out.drewN _) (Q0.out.drewN _))))
                clear hwz
                have hgw2 := grown_drewB hgw nq
                have HO2 := Lib.hid (HO.out.drewB nq)
                clear c1 c0 ck fk STO HO
                go_wp2
                go_roundg (n - (k + (z + 1 + 1)))
                case measure => omega
                case rel => exact ⟨kk, z + 1 + 1, rfl, by go_num, by omega, by omega, Nat.le_refl _, by omega, by rw [NX.out]; exact HC.out, by rw [NX.out]; exact HO2.out, hgw2⟩
            · have hend : k + k2 = n := by omega
              have hn2 : k2 = n - k := by omega
              have hkkn : kk < n := by omega
              have hkkd : (kk : Int) ≤ (c : Int) := by omega
              have hkkn' : (kk : Int) ≤ (n : Int) := by omega
              have hkk0 : (0 : Int) ≤ (kk : Int) := by omega
              have hncap2 : ¬ c = kk := by omega
              have hcl : ∀ ty, (Builtin.clear_ #[24] ty #[.slice (some ⟨g, kk, none⟩) (n - kk) (c - kk)]).run Try.prog wr = .ok (.tuple #[]) (wr.setCells g kk (List.replicate (n - kk) (.slice none 0 0))) :=
                fun ty => Lib.run_clear_slice wr 24 37 ty (.slice none 0 0) Try.underlying24 (fun w' => by first | exact Try.zeroValue37 w' | rfl) rfl rfl g kk (n - kk) (c - kk) (by omega) (fun j hj => by
                  have h9 := ho.cell hIV_len (i := kk + j) (j := 0) (List.getElem?_eq_getElem (by have h8 := ho.len; omega)) rfl
                  rw [Nat.mul_one, Nat.add_zero] at h9
                  rw [h9]; rfl) (fun j hj => ho.frozen (kk + j))
              have FIN : Hid (Own hIV 1 (wr.setCells g kk (List.replicate (n - kk) (.slice none 0 0))) base 37 (some ⟨g, 0, none⟩) kk c ((cmpTo keyQ ds n).map (·.1))) := by
                have h9 := ho.cut hIV_len (k := kk) (by omega)
                rw [← List.map_take, List.take_left' HC.out, hend] at h9
                exact h9.pokes _ kk _ (by omega)
              have GF := Lib.hid (grown_trans hgw (grown_setCells g (List.replicate (n - kk) (.slice none 0 0)) kk wr))
              clear ho hend hkk hle hg2 HC HO
              subst hn2
              go_wp2
              go_ret
              exact ⟨⟨kk, rfl, FIN.out⟩, GF.out⟩
      · obtain rfl : k = n := by omega
        have E : Hid (cmpTo keyQ ds k = ds) := by
          show _ = _
          rw [ALL.out k (Nat.le_refl _) A1.out, List.take_of_length_le (by rw [HLEN.out]; exact Nat.le_refl _)]
        clear ho
        go_wp2
        go_ret
        exact ⟨⟨_, rfl, by rw [E.out]; exact HO1.out⟩, hgw⟩

end Go.Proofs.Ytmmogpbbehgkiaa
