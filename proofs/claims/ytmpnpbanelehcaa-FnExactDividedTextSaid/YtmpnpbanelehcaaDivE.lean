/-
  YtmpnpbanelehcaaDivE: clauses: the places of true in a list; ClosureOf, both sides. (Printed by wip/gen/dive.py.)
-/
import Derived.Test.YtmpnpbanelehcaaDivB
import Derived.Test.YtmpnpbanelehcaaCloM
namespace Go.Proofs.Ytmpnpbanelehcaa
open Go Go.RowKit Go.Sort
set_option linter.unusedVariables false

theorem chs_all (bs : List Bool) {n : Nat} (h : bs.length = n) : chs (bs.take n) = chs bs := by rw [List.take_of_length_le (by omega)]


set_option maxRecDepth 100000 in
set_option maxHeartbeats 1000000 in
theorem chosen_any (A : Option Addr) (n c : Nat) (bs : List Bool) (w : World) (ha : Rd boV 1 w A n c bs) (hn : n ≤ 1048576) :
    Calls Try.prog 74 #[.slice A n c] w fun e w' => (∃ B q d, e = .returned (.slice B q d) ∧ Own inV 1 w' w.heap.size 3 B q d (chs bs)) ∧ Below w.heap.size w w' := by
  obtain ⟨i0, hii, hz0, hz1, hz2⟩ := info_parts Try.infoin
  have HL := Lib.hid ha.len
  have oe := Own.empty inV 1 w 3
  go_enter Try.func74, Try.ntmps74
  go_wp2
  go_loopw [3, 9] (fun v kv wr => ∃ k : Nat, k ≤ n ∧ kv = .int .i64 k ∧ (∃ B q d, v = .slice B q d ∧ q ≤ k ∧ Own inV 1 wr w.heap.size 3 B q d (chs (bs.take k))) ∧ Below w.heap.size w wr) (fun _ kv _ => n - (intOf kv).toNat)
  case atStart => exact ⟨0, Nat.zero_le _, rfl, ⟨_, 0, 0, rfl, Nat.le_refl _, oe⟩, below_alloc _⟩
  case round =>
    clear oe
    obtain ⟨k, hk, rfl, ⟨B, q, d, rfl, hq, ho⟩, hbw⟩ := hrel
    by_cases hlt : k < n
    · obtain ⟨b1, o1, b, rfl, hb, c0⟩ := (ha.below hbw).bo hlt
      have NX := Lib.hid (chs_take bs k b hb)
      have HO := Lib.hid ho
      clear hb ha ho
      cases b
      · have E := Lib.hid (show chs (bs.take (k + 1)) = chs (bs.take k) by rw [NX.out]; simp)
        go_wp2
        go_roundw
        case rel => exact ⟨k + 1, by omega, by go_num, ⟨B, q, d, rfl, by omega, by rw [E.out]; exact HO.out⟩, hbw⟩
        case measure => first | (simp [intOf]; done) | (simp [intOf]; omega)
      · have E := Lib.hid (show chs (bs.take (k + 1)) = chs (bs.take k) ++ [(k : Int)] by rw [NX.out]; simp)
        go_wp2_with (at_builtin; refine wpList_push rfl _ _ _ rfl w.heap.size 3 i0 (.int .i64 0) 1 8 Try.underlying31 hii hz0 hz1 hz2 rfl (by omega) inV inV_len one_int2 B q d _ rfl HO.out (k : Int) _ rfl _ rfl (by first | rfl | simp) (by simp only [maxLen]; omega) (by omega) hbw.size ?_; intro B3 d3 w3 ho3 hg3)
        go_roundw
        case rel => exact ⟨k + 1, by omega, by go_num, ⟨B3, q + 1, d3, rfl, by omega, by rw [E.out]; exact ho3⟩, below_push hbw HO.out hg3 (Nat.le_refl _)⟩
        case measure => first | (simp [intOf]; done) | (simp [intOf]; omega)
    · obtain rfl : k = n := by omega
      have E := Lib.hid (chs_all bs HL.out)
      have HO := Lib.hid ho
      clear ha ho
      go_wp2
      go_ret
      exact ⟨⟨_, _, _, rfl, by rw [← E.out]; exact HO.out⟩, hbw⟩


set_option maxRecDepth 100000 in
theorem l1Own_any (A : Option Addr) (n c : Nat) (r : List Int) (w : World) (ha : Rd inV 1 w A n c r) (hn : n ≤ 1048576) :
    Calls Try.prog 70 #[.slice A n c] w fun e w' => (∃ B d, e = .returned (.slice B n d) ∧ Own inV 1 w' w.heap.size 3 B n d r) ∧ Below w.heap.size w w' := by
  obtain ⟨i0, hi, hz0, hz1, hz2⟩ := info_parts Try.infoin
  go_enter Try.func70, Try.ntmps70
  go_wp2_with ((
     at_builtin
     refine wpList_pushAll rfl _ _ _ rfl w.heap.size 3 i0 (.int .i64 0) 1 8 Try.underlying31 hi hz0 hz1 hz2 rfl (by omega) inV inV_len one_int2 _ 0 0 [] rfl (Own.empty inV 1 _ 3) _ n c r rfl (ha.alloc _) (by simp only [maxLen]; omega) (by omega) (by first | simp; done | (simp; omega)) ?_
     intro B1 d1 w1 o1 g1
     simp only [Nat.zero_add, List.nil_append] at o1
     have b1 : Below w.heap.size w w1 := (below_alloc _).grown g1 (by simp) (fun k hk => by simp [blockOf] at hk; omega)))
  go_ret
  exact ⟨⟨_, _, rfl, o1⟩, b1⟩

def cloOk (l : List CL) (ws : List Int) : Bool := clsB l && risB ws 0 ((l.length : Int) - 1)
noncomputable def cloR (l : List CL) (ws : List Int) : List Int := if cloOk l ws then cloL l ws else []
theorem cloR_len (l : List CL) (ws : List Int) : (cloR l ws).length ≤ l.length := by
  unfold cloR; split
  · exact chP_len _ _
  · simp
theorem cloR_no {l : List CL} {ws : List Int} (h : cloOk l ws = false) : cloR l ws = [] := by simp [cloR, h]
theorem cloR_yes {l : List CL} {ws : List Int} (h : cloOk l ws = true) : cloR l ws = cloL l ws := by simp [cloR, h]


set_option maxRecDepth 100000 in
set_option maxHeartbeats 2000000 in
theorem implClosure_any (A : Option Addr) (n c : Nat) (hs : List HC) (l : List CL) (Aw : Option Addr) (m cw : Nat) (ws : List Int) (w : World) (ha : RdC w A n c hs l) (hb : Rd inV 1 w Aw m cw ws) (hm20 : m ≤ 1048576) (hg : ∀ x ∈ l, ClSz x) :
    Calls Try.prog 28 #[.slice A n c, .slice Aw m cw] w fun e w' => (∃ B q d, e = .returned (.tuple #[.slice B q d, .bool (cloOk l ws)]) ∧ Own inV 1 w' w.heap.size 3 B q d (cloR l ws)) ∧ Below w.heap.size w w' := by
  have HL := Lib.hid ha.len
  have HM := Lib.hid hb.len
  have hm := ha.le
  go_enter Try.func28, Try.ntmps28
  go_wp2_with fail
  refine (AreClauses_any _ _ _ _ _ _ ha hg).mono ?_
  rintro e w1 ⟨rfl, b1⟩
  cases h1 : clsB l
  · have E := Lib.hid (show cloOk l ws = false by unfold cloOk; rw [h1]; rfl)
    clear ha hb h1
    go_wp2
    go_ret2
    exact ⟨⟨_, _, _, ret_sl_bool' E.out.symm, by rw [cloR_no E.out]; exact Own.nil _ _ _⟩, b1⟩
  have C1 := Lib.hid h1
  clear h1
  go_wp2_with fail
  refine (ascending_any _ _ _ ws _ _ _ (hb.below b1)).mono ?_
  rintro e wx ⟨rfl, rfl⟩
  cases h2 : risB ws 0 ((n : Int) - 1)
  · have E := Lib.hid (show cloOk l ws = false by unfold cloOk; rw [HL.out, h2, Bool.and_false])
    clear ha hb h2
    go_wp2
    go_ret2
    exact ⟨⟨_, _, _, ret_sl_bool' E.out.symm, by rw [cloR_no E.out]; exact Own.nil _ _ _⟩, b1⟩
  have R2 := Lib.hid h2
  have E := Lib.hid (show cloOk l ws = true by unfold cloOk; rw [HL.out, h2, C1.out]; rfl)
  have WB := Lib.hid (fun y (hy : y ∈ ws) => (ris_spec.1 h2).2 y hy)
  have hn8 : n ≤ 8 := by rw [← HL.out]; exact cls_len C1.out
  clear h2 hg

  obtain ⟨i0, hii, hz0, hz1, hz2⟩ := info_parts Try.infobo
  go_wp2_with (at_make; refine wpList_make_full _ rfl _ _ _ rfl w1.heap.size 4 i0 (.bool false) 1 Try.underlying41 hii hz0 hz1 .i64 .i64 _ _ n rfl rfl rfl rfl (by rw [hz2]; omega) (by simp only [maxLen]; omega) (Nat.le_refl _) ?_; intro w2 hown hg1)
  have ho : Own boV 1 w2 w1.heap.size 4 (some ⟨w1.heap.size, 0, none⟩) n n (cloT l ws 0) := by rw [cloT_start, HL.out]; exact ⟨by simp, by rw [← made_flat (z := (Value.cells (.bool false))) boV_len (by omega) false rfl]; exact hown⟩
  have hb1 : Below w.heap.size w w2 := below_trans b1 (below_of_grown hg1 (Nat.le_refl _) (fun k hk => by cases hk))
  have hs1 := b1.size
  clear hown hg1
  go_loopw [27] (fun kv wr => ∃ k : Nat, k ≤ m ∧ kv = .int .i64 k ∧ Own boV 1 wr w1.heap.size 4 (some ⟨w1.heap.size, 0, none⟩) n n (cloT l ws k) ∧ Below w.heap.size w wr) (fun kv _ => m - (intOf kv).toNat)
  case atStart => exact ⟨0, Nat.zero_le _, rfl, ho, hb1⟩
  case round =>
    clear ho hb1
    obtain ⟨k, hk, rfl, ho, hbw⟩ := hrel
    by_cases hlt : k < m
    · obtain ⟨b3, o3, y, rfl, hy, e0⟩ := (hb.below hbw).in hlt
      have hyb := WB.out y (List.mem_of_getElem? hy)
      obtain ⟨v, rfl⟩ := Int.eq_ofNat_of_zero_le hyb.1
      have hvn : v < n := by have := hyb.2; omega
      have hvl : v < l.length := by rw [HL.out]; exact hvn
      have OE := Lib.hid (orT_end (l := l) hy)
      rw [HL.out] at OE
      have T0 := Lib.hid (orT_start (l := l) (ws := ws) (k := k) (v := v))
      obtain ⟨b0, hb0⟩ : ∃ b0, (cloT l ws k)[v]? = some b0 := ⟨_, List.getElem?_eq_getElem (by rw [cloT_len]; exact hvl)⟩
      have cv := ho.cell boV_len (i := v) (j := 0) hb0 rfl
      have fv := ho.frozen v
      simp only [Nat.mul_one, Nat.add_zero] at cv
      have ST := ho.store boV_len (i := v) (j := 0) hb0 (by omega) true (.bool true) rfl
      simp only [Nat.mul_one, Nat.add_zero] at ST
      rw [T0.out] at ST
      have t2 : Below w.heap.size w (wr.setCell ⟨w1.heap.size, v, none⟩ (.bool true)) := below_setCell hbw _ _ _ hs1
      have hv0 : (0 : Int) ≤ (v : Int) := by omega
      have hvn' : (v : Int) < (n : Int) := by omega
      have STH := Lib.hid ST
      clear ST hy hyb hb hb0 ho
      go_wp2_with fail
      generalize hv1 : wr.setCell ⟨w1.heap.size, v, none⟩ (.bool true) = v1 at *
      clear hv1 cv fv
      refine (dependsOn_any _ _ _ _ l v _ (ha.below t2) C1.out hvl).mono ?_
      rintro e w3 ⟨⟨B2, d2, rfl, o2⟩, b2⟩
      have t3 := below_trans t2 b2
      have ho3 := STH.out.1.below b2
      obtain ⟨g2, rfl⟩ := o2.form (by omega)
      have hg2 : v1.heap.size ≤ g2 := (o2.lt (k := g2) rfl).1
      have hlt1 : w1.heap.size < v1.heap.size := (STH.out.1.lt (k := w1.heap.size) rfl).2
      clear STH ha t2 hvl
      go_wp2
      go_loopw [38] (fun tv wr => ∃ t : Nat, t ≤ n ∧ tv = .int .i64 t ∧ Own boV 1 wr w1.heap.size 4 (some ⟨w1.heap.size, 0, none⟩) n n (orT l ws k (v : Int) t) ∧ Own boV 1 wr v1.heap.size 4 (some ⟨g2, 0, none⟩) n d2 (dpB l v) ∧ Below w.heap.size w wr) (fun tv _ => n - (intOf tv).toNat)
      case atStart => exact ⟨0, Nat.zero_le _, rfl, ho3, o2, t3⟩
      case round =>
        clear ho3 o2 t3 hbw
        obtain ⟨t, ht, rfl, ho, ho2, hbw⟩ := hrel
        by_cases htn : t < n
        · have htl : t < l.length := by rw [HL.out]; exact htn
          have g1 := orT_get (l := l) (ws := ws) (k := k) (y := (v : Int)) htl
          have g3 := dpB_get (k := v) htl
          have NX := Lib.hid (orT_next (l := l) (ws := ws) (k := k) (y := (v : Int)) (t := t))
          rw [Int.toNat_natCast] at NX
          generalize (cloB l (ws.take k) t || decide ((v : Int) = (t : Int))) = p1 at *
          generalize depB l v t = p2 at *
          have c1 := ho.cell boV_len (i := t) (j := 0) g1 rfl
          have f1 := ho.frozen t
          have c2 := ho2.cell boV_len (i := t) (j := 0) g3 rfl
          simp only [Nat.mul_one, Nat.add_zero] at c1 c2
          have ST := ho.store boV_len (i := t) (j := 0) g1 (by omega) (p1 || p2) (.bool (p1 || p2)) rfl
          simp only [Nat.mul_one, Nat.add_zero] at ST
          rw [NX.out] at ST
          have STH := Lib.hid ST
          have HO2 := Lib.hid (ho2.grown ST.2 (.inr (by simp [blockOf]; omega)))
          have ht0 : (0 : Int) ≤ (t : Int) := by omega
          have htn' : (t : Int) < (n : Int) := by omega
          clear ST htl g1 g3 ho ho2 NX
          cases p1
          · have E1 : Hid ((false || p2) = p2) := rfl
            go_wp2
            have S1 := STH.out.1
            have S2 := HO2.out
            simp only [Bool.false_or] at S1 S2
            go_roundw
            case rel => exact ⟨t + 1, by omega, by go_num, S1, S2, below_setCell hbw _ _ _ hs1⟩
            case measure => first | (simp [intOf]; done) | (simp [intOf]; omega)
          · go_wp2
            have S1 := STH.out.1
            have S2 := HO2.out
            simp only [Bool.true_or] at S1 S2
            go_roundw
            case rel => exact ⟨t + 1, by omega, by go_num, S1, S2, below_setCell hbw _ _ _ hs1⟩
            case measure => first | (simp [intOf]; done) | (simp [intOf]; omega)
        · obtain rfl : t = n := by omega
          have HO := Lib.hid ho
          clear ho ho2
          go_wp2
          go_roundw
          case rel => exact ⟨k + 1, by omega, by go_num, by rw [← OE.out]; exact HO.out, hbw⟩
          case measure => first | (simp [intOf]; done) | (simp [intOf]; omega)
    · obtain rfl : k = m := by omega
      have CE := Lib.hid (cloT_end (l := l) HM.out)
      have HO := Lib.hid ho
      clear ha hb ho
      go_wp2_with fail
      refine (chosen_any _ _ _ _ _ (HO.out.rd boV_len) (by omega)).mono ?_
      rintro e w3 ⟨⟨B, q, d, rfl, o3⟩, b3⟩
      have O3 := Lib.hid o3
      clear o3
      go_wp2
      go_ret2
      exact ⟨⟨_, _, _, ret_sl_bool' E.out.symm, by rw [cloR_yes E.out, ← CE.out]; exact O3.out.base_le hbw.size⟩, below_trans hbw b3⟩


set_option maxRecDepth 100000 in
set_option maxHeartbeats 2000000 in
theorem specClosure_any (A : Option Addr) (n c : Nat) (hs : List HC) (l : List CL) (Aw : Option Addr) (m cw : Nat) (ws : List Int) (w : World) (ha : RdC w A n c hs l) (hb : Rd inV 1 w Aw m cw ws) (hm20 : m ≤ 1048576) (hg : ∀ x ∈ l, ClSz x) :
    Calls Try.prog 26 #[.slice A n c, .slice Aw m cw] w fun e w' => (∃ B q d, e = .returned (.tuple #[.slice B q d, .bool (cloOk l ws)]) ∧ Own inV 1 w' w.heap.size 3 B q d (cloR l ws)) ∧ Below w.heap.size w w' := by
  have HL := Lib.hid ha.len
  have HM := Lib.hid hb.len
  have hm := ha.le
  go_enter Try.func26, Try.ntmps26
  go_wp2_with fail
  refine (l19Good_any _ _ _ _ _ _ ha hg).mono ?_
  rintro e w1 ⟨rfl, b1⟩
  cases h1 : clsB l
  · have E := Lib.hid (show cloOk l ws = false by unfold cloOk; rw [h1]; rfl)
    clear ha hb h1
    go_wp2
    go_ret2
    exact ⟨⟨_, _, _, ret_sl_bool' E.out.symm, by rw [cloR_no E.out]; exact (Own.empty _ _ _ _).base_le b1.size⟩, below_trans b1 (below_alloc _)⟩
  have C1 := Lib.hid h1
  clear h1
  go_wp2_with fail
  refine (l1Rising_any _ _ _ ws _ _ _ (hb.below b1)).mono ?_
  rintro e wx ⟨rfl, bx⟩
  replace b1 := below_trans b1 bx
  clear bx
  cases h2 : risB ws 0 ((n : Int) - 1)
  · have E := Lib.hid (show cloOk l ws = false by unfold cloOk; rw [HL.out, h2, Bool.and_false])
    clear ha hb h2
    go_wp2
    go_ret2
    exact ⟨⟨_, _, _, ret_sl_bool' E.out.symm, by rw [cloR_no E.out]; exact (Own.empty _ _ _ _).base_le b1.size⟩, below_trans b1 (below_alloc _)⟩
  have R2 := Lib.hid h2
  have E := Lib.hid (show cloOk l ws = true by unfold cloOk; rw [HL.out, h2, C1.out]; rfl)
  have WB := Lib.hid (fun y (hy : y ∈ ws) => (ris_spec.1 h2).2 y hy)
  have hn8 : n ≤ 8 := by rw [← HL.out]; exact cls_len C1.out
  clear h2 hg

  have W0 := Lib.hid (fun y (hy : y ∈ ws) => (WB.out y hy).1)
  go_wp2_with fail
  refine (l1Own_any _ _ _ ws _ (hb.below b1) hm20).mono ?_
  rintro e w2 ⟨⟨B, d, rfl, o2⟩, b2⟩
  have t2 := below_trans b1 b2
  have hs1 := b1.size
  have FS := Lib.hid (fro_start C1.out HL.out R2.out)
  have hmn : m ≤ n := by
    have h1 := chP_len l.length (froB l ws n)
    rw [FS.out, HM.out, HL.out] at h1
    exact h1
  have O2 := Lib.hid (show Own inV 1 w2 w.heap.size 3 B m d (chP l.length (froB l ws n)) by rw [FS.out]; exact o2.base_le hs1)
  clear hb o2 b1 b2
  go_wp2
  go_loopw [6, 7] (fun v kv wr => ∃ (p : Nat) (z : Int), p ≤ n ∧ kv = .int .i64 z ∧ z = (p : Int) - 1 ∧ (∃ B q d, v = .slice B q d ∧ q ≤ n ∧ Own inV 1 wr w.heap.size 3 B q d (chP l.length (froB l ws p))) ∧ Below w.heap.size w wr) (fun _ kv _ => (intOf kv + 1).toNat)
  case atStart => exact ⟨n, _, Nat.le_refl _, rfl, rfl, ⟨B, m, d, rfl, hmn, O2.out⟩, t2⟩
  case round =>
    clear O2 t2
    obtain ⟨p, z, hp, rfl, hz, ⟨B, q, d, rfl, hq, ho⟩, hbw⟩ := hrel
    cases p with
    | zero =>
      obtain rfl : z = -1 := by omega
      have FE := Lib.hid (fro_end (l := l) W0.out)
      have HO := Lib.hid ho
      clear ha ho hz
      go_wp2
      go_ret2
      exact ⟨⟨_, _, _, ret_sl_bool' E.out.symm, by rw [cloR_yes E.out, ← FE.out]; exact HO.out⟩, hbw⟩
    | succ p =>
      obtain rfl : z = (p : Int) := by omega
      clear hz
      have hpn : p < n := by omega
      obtain ⟨x, hx⟩ : ∃ x, l[p]? = some x := ⟨_, List.getElem?_eq_getElem (by rw [HL.out]; exact hpn)⟩
      have HX := Lib.hid hx
      have NB := Lib.hid (fun y (hy : y ∈ x.ns) => ns_bd C1.out hx hy)
      have HAS := Lib.hid (fun j => frT_has C1.out W0.out (q := p) (by rw [HL.out]; exact hpn) (ns := x.ns) (j := j) (fun y hy => (ns_bd C1.out hx hy).2))
      have HO := Lib.hid (show Own inV 1 wr w.heap.size 3 B q d (frT l ws p x.ns 0) by rw [frT_zero]; exact ho)
      clear hx ho
      go_wp2
      obtain ⟨wo, hwo⟩ : ∃ wo : World, wo = wr := ⟨_, rfl⟩
      subst hwo
      go_loopw [6, 8] (fun v jv wr => ∃ j : Nat, j ≤ x.ns.length ∧ jv = .int .i64 j ∧ (0 < j → cloB l ws p = true) ∧ (∃ B q d, v = .slice B q d ∧ Own inV 1 wr w.heap.size 3 B q d (frT l ws p x.ns j)) ∧ Below w.heap.size w wr) (fun _ jv _ => x.ns.length - (intOf jv).toNat)
      case atStart => exact ⟨0, Nat.zero_le _, rfl, (fun h => absurd h (by omega)), ⟨B, q, d, rfl, HO.out⟩, hbw⟩
      case round =>
        clear hbw HO hq
        obtain ⟨j, hj, rfl, hact, ⟨B, q, d, rfl, ho⟩, hbw⟩ := hrel
        have HACT := Lib.hid hact
        obtain ⟨b1, o1, h, x', rfl, hx', -, c0, c1, x0, x1⟩ := (ha.below hbw).at hpn
        obtain rfl : x = x' := by have h5 := HX.out; rw [hx'] at h5; injection h5 with h5; exact h5.symm
        have HO := Lib.hid ho
        have hq : q ≤ n := by rw [← ho.len, ← HL.out]; exact frT_len _ _ _ _ _
        have LN := Lib.hid x1.len
        have hnm := x1.le
        have hsz := hbw.size
        have hl1 : x.ns.length ≤ h.nn := by rw [LN.out]; exact Nat.le_refl _
        have hl2 : h.nn ≤ x.ns.length := by rw [LN.out]; exact Nat.le_refl _
        clear hx' ho hact
        by_cases hjl : j < h.nn
        · obtain ⟨b2, o2, y, hAe, hy, d1⟩ := x1.in hjl
          have hyb := NB.out y (List.mem_of_getElem? hy)
          obtain ⟨v, rfl⟩ := Int.eq_ofNat_of_zero_le hyb.1
          have FN := Lib.hid (frT_next (l := l) (ws := ws) (q := p) hy hyb.1 (by rw [HL.out]; have := hyb.2; omega))
          clear hy hyb x0 x1
          rw [hAe] at c1
          clear hAe
          go_wp2_with fail
          refine (l1Has_any _ _ _ _ _ _ (HO.out.rd inV_len)).mono ?_
          rintro e w2 ⟨rfl, rfl⟩
          rw [HAS.out j]
          cases hd : cloB l ws p
          · have FE := Lib.hid (show chP l.length (froB l ws p) = frT l ws p x.ns j by
              have hj0 : j = 0 := by
                rcases Nat.eq_zero_or_pos j with h9 | h9
                · exact h9
                · have := HACT.out h9; rw [hd] at this; cases this
              rw [hj0, frT_zero]
              exact chP_congr (fun m _ => fro_no hd m))
            clear hd ha
            go_wp2
            go_roundw
            case rel => exact ⟨p, (p : Int) - 1, by omega, rfl, rfl, ⟨B, q, d, rfl, hq, by rw [FE.out]; exact HO.out⟩, hbw⟩
            case measure => first | (simp [intOf]; done) | (simp [intOf]; omega)
          · have HD := Lib.hid hd
            clear hd ha
            go_wp2_with fail
            refine (l1Put_any _ _ _ w.heap.size _ _ _ HO.out (by omega) hsz).mono ?_
            rintro e w3 ⟨⟨B3, q3, d3, rfl, o3⟩, b3⟩
            have O3 := Lib.hid o3
            clear o3
            go_wp2
            go_roundw
            case rel => exact ⟨j + 1, by omega, by go_num, (fun _ => HD.out), ⟨B3, q3, d3, rfl, by rw [FN.out]; exact O3.out⟩, below_trans hbw b3⟩
            case measure => first | (simp [intOf]; done) | (simp [intOf]; omega)
        · have FE := Lib.hid (show chP l.length (froB l ws p) = frT l ws p x.ns j by
            have hjn : x.ns.length = j := by omega
            cases hd : cloB l ws p
            · have hj0 : j = 0 := by
                rcases Nat.eq_zero_or_pos j with h9 | h9
                · exact h9
                · have := HACT.out h9; rw [hd] at this; cases this
              rw [hj0, frT_zero]
              exact chP_congr (fun m _ => fro_no hd m)
            · exact (frT_end HX.out hd hjn).symm)
          clear x0 x1 ha
          go_wp2
          go_roundw
          case rel => exact ⟨p, (p : Int) - 1, by omega, rfl, rfl, ⟨B, q, d, rfl, hq, by rw [FE.out]; exact HO.out⟩, hbw⟩
          case measure => first | (simp [intOf]; done) | (simp [intOf]; omega)


end Go.Proofs.Ytmpnpbanelehcaa
