/-
  YtndoapgalbljpaaDivF: clauses: which stand, the program's side. (Printed by wip/gen/divf.py.)
-/
import Derived.Test.YtndoapgalbljpaaDivE
import Derived.Deep.RegionLaw
import Derived.Deep.RegionHeld3
import Derived.StillTailTactics
namespace Go.Proofs.Ytndoapgalbljpaa
open Go Go.RowKit Go.Sort
set_option linter.unusedVariables false

/-- A variable's one cell. -/
def vaV (v : Value) : List Value := [v]
theorem vaV_len (v : Value) : (vaV v).length = 1 := rfl
def gdB (bs : List Bool) (y : Int) : Bool := bs.getD y.toNat false
set_option maxRecDepth 100000 in
theorem standCl_any (y : Int) (g : Nat) (B : Option Addr) (q d : Nat) (bs : List Bool) (w : World) (hq : w.cell? ⟨g, 0, none⟩ = some (.slice B q d)) (hb : Rd boV 1 w B q d bs) (h0 : 0 ≤ y) (h1 : y < q) :
    Calls Try.prog 74 #[.int .i64 y, .pointer (some ⟨g, 0, none⟩)] w fun e w' => e = .returned (.bool (!gdB bs y)) ∧ w = w' := by
  obtain ⟨m, rfl⟩ := Int.eq_ofNat_of_zero_le h0
  have hm : m < q := by omega
  obtain ⟨b1, o1, b, rfl, hx, c0⟩ := hb.bo hm
  have E := Lib.hid (show gdB bs (m : Int) = b by unfold gdB; rw [Int.toNat_natCast, List.getD, hx]; rfl)
  have hm' := hb.le
  clear hb hx
  go_enter Try.func74, Try.ntmps74
  go_wp2
  go_ret
  exact ⟨ret_bool (by rw [E.out]), rfl⟩

set_option maxRecDepth 100000 in
set_option maxHeartbeats 1000000 in
theorem idxStand_any (A : Option Addr) (n c : Nat) (ns : List Int) (g : Nat) (B : Option Addr) (q d : Nat) (bs : List Bool) (w : World) (ha : Rd inV 1 w A n c ns) (hq : w.cell? ⟨g, 0, none⟩ = some (.slice B q d)) (hb : Rd boV 1 w B q d bs) (hn : ∀ y ∈ ns, 0 ≤ y ∧ y < q) :
    Calls Try.prog 84 #[.slice A n c, .func (.func 74) #[] #[.pointer (some ⟨g, 0, none⟩)]] w fun e w' => (∃ r : Int, e = .returned (.int .i64 r) ∧ decide (0 ≤ r) = !ns.all (gdB bs)) ∧ w = w' := by
  have hm := ha.le
  have HL := Lib.hid ha.len
  go_enter Try.func84, Try.ntmps84
  go_wp2
  go_loop [8] (fun i => ∃ k : Nat, k ≤ n ∧ i = .int .i64 k ∧ (∀ j x, j < k → ns[j]? = some x → gdB bs x = true)) (fun i => n - (intOf i).toNat)
  case atStart => exact ⟨0, Nat.zero_le _, rfl, fun j x hj => absurd hj (by omega)⟩
  case round =>
    obtain ⟨k, hk, rfl, hup⟩ := hrel
    have HU := Lib.hid hup
    clear hup
    by_cases hlt : k < n
    · obtain ⟨b1, o1, y, rfl, hs, c0⟩ := ha.in hlt
      have HS := Lib.hid hs
      have hy := hn y (List.mem_of_getElem? hs)
      have HB := Lib.hid hb
      clear hs ha hb
      go_wp2_with fail
      refine (standCl_any y g B q d bs _ hq HB.out hy.1 hy.2).mono ?_
      rintro e w2 ⟨rfl, rfl⟩
      cases h1 : gdB bs y
      · have E := Lib.hid (show ns.all (gdB bs) = false from all_fails HS.out h1)
        clear h1
        go_wp2
        go_ret
        exact ⟨⟨_, rfl, by rw [E.out]; simp⟩, rfl⟩
      · have HN : Hid (∀ j x, j < k + 1 → ns[j]? = some x → gdB bs x = true) := fun j x hj hx => by
          by_cases e : j = k
          · subst e; rw [HS.out] at hx; injection hx with hx; rw [← hx]; exact h1
          · exact HU.out j x (by omega) hx
        clear h1
        go_wp2
        go_round
        case rel => exact ⟨k + 1, by omega, by go_num, HN.out⟩
        case measure => first | (simp [intOf]; done) | (simp [intOf]; omega)
    · obtain rfl : k = n := by omega
      have E := Lib.hid (all_upto HL.out HU.out)
      clear ha hb
      go_wp2
      go_ret
      exact ⟨⟨_, rfl, by rw [E.out]; simp⟩, rfl⟩

set_option maxRecDepth 100000 in
theorem conStand_any (A : Option Addr) (n c : Nat) (ns : List Int) (g : Nat) (B : Option Addr) (q d : Nat) (bs : List Bool) (w : World) (ha : Rd inV 1 w A n c ns) (hq : w.cell? ⟨g, 0, none⟩ = some (.slice B q d)) (hb : Rd boV 1 w B q d bs) (hn : ∀ y ∈ ns, 0 ≤ y ∧ y < q) :
    Calls Try.prog 73 #[.slice A n c, .func (.func 74) #[] #[.pointer (some ⟨g, 0, none⟩)]] w fun e w' => e = .returned (.bool (!ns.all (gdB bs))) ∧ w' = w := by
  go_enter Try.func73, Try.ntmps73
  go_wp2_with fail
  refine (idxStand_any _ _ _ _ g B q d bs _ ha hq hb hn).mono ?_
  rintro e w2 ⟨⟨r, rfl, hr⟩, rfl⟩
  have HR := Lib.hid hr
  clear hr ha hb hq
  go_wp2
  go_ret
  exact ⟨ret_bool HR.out, rfl⟩

/-- One clause more. -/
theorem stTo_next (l : List CL) (ad : List Bool) {k : Nat} {x : CL} {a : Bool} (hx : l[k]? = some x) (ha : ad[k]? = some a) : stTo l ad (k + 1) = stTo l ad k ++ [a && x.ns.all (gdB (stTo l ad k))] := by
  rw [stTo, nd_of hx]
  simp only [List.getD, ha, Option.getD_some]
  rfl


set_option maxRecDepth 100000 in
set_option maxHeartbeats 4000000 in
theorem standing_any (A : Option Addr) (n c : Nat) (hs : List HC) (l : List CL) (Aa : Option Addr) (ca : Nat) (ad : List Bool) (w : World) (ha : RdC w A n c hs l) (hb : Rd boV 1 w Aa n ca ad) (hv : clsB l = true) :
    Calls Try.prog 51 #[.slice A n c, .slice Aa n ca] w fun e w' => (∃ B d, e = .returned (.slice B n d) ∧ Own boV 1 w' w.heap.size 4 B n d (stB l ad)) ∧ Below w.heap.size w w' := by
  obtain ⟨i0, hii, hz0, hz1, hz2⟩ := info_parts Try.infobo
  have HL := Lib.hid ha.len
  have HV := Lib.hid hv
  have hn8 : n ≤ 8 := by rw [← HL.out]; exact cls_len hv
  clear hv
  have oe : Own boV 1 ((w.alloc (.cells #[] 4)).alloc (.cells #[.slice (some ⟨w.heap.size, 0, none⟩) 0 0] 44)) w.heap.size 4 (some ⟨w.heap.size, 0, none⟩) 0 0 [] := Own.of_block (heap_old (heap_new rfl)) (Nat.le_refl _)
  have ov : Own vaV 1 ((w.alloc (.cells #[] 4)).alloc (.cells #[.slice (some ⟨w.heap.size, 0, none⟩) 0 0] 44)) w.heap.size 44 (some ⟨w.heap.size + 1, 0, none⟩) 1 1 [.slice (some ⟨w.heap.size, 0, none⟩) 0 0] := ⟨rfl, by simp [vaV], .inr ⟨w.heap.size + 1, 1, _, rfl, by omega, heap_new (by simp), by omega, by simp [maxLen], by simp, by simp [vaV]⟩⟩
  have b0 := below_alloc2 (w := w) (.cells #[] 4) (.cells #[.slice (some ⟨w.heap.size, 0, none⟩) 0 0] 44)
  go_enter Try.func51, Try.ntmps51
  go_wp2
  go_loopw [11] (fun kv wr => ∃ k : Nat, k ≤ n ∧ kv = .int .i64 k ∧ (∃ B d, Own boV 1 wr w.heap.size 4 B k d (stTo l ad k) ∧ Own vaV 1 wr w.heap.size 44 (some ⟨w.heap.size + 1, 0, none⟩) 1 1 [.slice B k d]) ∧ Below w.heap.size w wr) (fun kv _ => n - (intOf kv).toNat)
  case atStart => exact ⟨0, Nat.zero_le _, rfl, ⟨_, 0, oe, ov⟩, b0⟩
  case round =>
    clear oe ov b0
    obtain ⟨k, hk, rfl, ⟨B, d, ho, ov⟩, hbw⟩ := hrel
    have cv := ov.cell vaV_len (i := 0) (j := 0) rfl rfl
    have fv := ov.frozen 0
    simp only [Nat.zero_mul, Nat.add_zero] at cv
    by_cases hlt : k < n
    · obtain ⟨b1, o1, h, x, rfl, hx, -, c0, c1, x0, x1⟩ := (ha.below hbw).at hlt
      obtain ⟨b2, o2, a, rfl, hax, d0⟩ := (hb.below hbw).bo hlt
      have NX := Lib.hid (stTo_next l ad hx hax)
      have NB : Hid (∀ y ∈ x.ns, 0 ≤ y ∧ y < (k : Int)) := fun y hy => ns_bd HV.out hx hy
      have hk0 : (0 : Int) ≤ (k : Int) := by omega
      have hkn : (k : Int) < (n : Int) := by omega
      have HO := Lib.hid ho
      have OV := Lib.hid ov
      have X1 := Lib.hid x1
      have t1 : Below w.heap.size w (wr.alloc (.cells #[.slice h.wA h.wn h.wc, .slice h.nA h.nn h.nc] 57)) := below_trans hbw (below_alloc _)
      have q1 : (wr.alloc (.cells #[.slice h.wA h.wn h.wc, .slice h.nA h.nn h.nc] 57)).cell? ⟨wr.heap.size, 1, none⟩ = some (.slice h.nA h.nn h.nc) := cell_of_row _ _ 1 _ _ _ (heap_new rfl)
      replace cv := cell_below (below_alloc (.cells #[.slice h.wA h.wn h.wc, .slice h.nA h.nn h.nc] 57)) cv
      replace d0 := cell_below (below_alloc (.cells #[.slice h.wA h.wn h.wc, .slice h.nA h.nn h.nc] 57)) d0
      clear hx hax ho ov x0 x1 ha hb
      have O3 := Lib.hid (HO.out.alloc (.cells #[.slice h.wA h.wn h.wc, .slice h.nA h.nn h.nc] 57))
      have V3 := Lib.hid (OV.out.alloc (.cells #[.slice h.wA h.wn h.wc, .slice h.nA h.nn h.nc] 57))
      have R3 := Lib.hid (X1.out.alloc (.cells #[.slice h.wA h.wn h.wc, .slice h.nA h.nn h.nc] 57))
      clear HO OV X1
      cases a
      · go_upto_region 5 with fail
        have E := Lib.hid (show stTo l ad (k + 1) = stTo l ad k ++ [false] from NX.out)
        clear c0 c1 NX
        generalize hw3 : wr.alloc (.cells #[.slice h.wA h.wn h.wc, .slice h.nA h.nn h.nc] 57) = w3 at *
        have cv2 := cell_below (below_alloc (.cells #[.bool false] 4)) cv
        refine wp_region_any (by kernel_rfl) ?_
        change wpAny _ _ _ _ _ _ _ (World.drew _)
        refine wpAny_take (i := 1) (v := .slice (some ⟨b2, o2, none⟩) n ca) rfl (by kernel_rfl) (by kernel_rfl) (by kernel_rfl) (fun _ _ _ h => h) (Or.inl ⟨rfl, fun w => by go_simp⟩) ?_
        refine wpAny_take (i := 2) (v := .int .i64 k) rfl (by kernel_rfl) (by kernel_rfl) (by kernel_rfl) (fun _ _ _ h => h) (Or.inl ⟨rfl, fun w => by go_simp⟩) ?_
        refine wpAny_take (i := 3) (v := .pointer (some ⟨b2, o2 + k, none⟩)) rfl (by kernel_rfl) (by kernel_rfl) (by kernel_rfl) (fun _ _ _ h => h) (Or.inl ⟨rfl, fun w => by go_simp⟩) ?_
        refine wpAny_ready (rs := [0, 4]) (by kernel_rfl) (by simp) ?_
        refine AllReady.cons rfl (fun K hK => ?_) (AllReady.cons rfl (fun K hK => ?_) AllReady.nil)
        · go_simp
          refine hK _ _ ?_
          clear hK K
          refine wpAny_ready (rs := [4]) (by kernel_rfl) (by simp) ?_
          refine AllReady.cons rfl (fun K hK => ?_) AllReady.nil
          go_simp
          refine hK _ _ ?_
          clear hK K
          refine wpAny_take (i := 5) (v := .bool false) rfl (by kernel_rfl) (by kernel_rfl) (by kernel_rfl) (fun _ _ _ h => h) (Or.inl ⟨rfl, fun w => by go_simp⟩) ?_
          refine wpAny_take (i := 6) (v := undef) rfl (by kernel_rfl) (by kernel_rfl) (by kernel_rfl) (fun _ _ _ h => h) (Or.inr ⟨rfl, rfl⟩) ?_
          refine wpAny_take (i := 7) (v := undef) rfl (by kernel_rfl) (by kernel_rfl) (by kernel_rfl) (fun _ _ _ h => h) (Or.inr ⟨rfl, rfl⟩) ?_
          refine wpAny_take (i := 8) (v := undef) rfl (by kernel_rfl) (by kernel_rfl) (by kernel_rfl) (fun _ _ _ h => h) (Or.inr ⟨rfl, rfl⟩) ?_
          refine wpAny_take (i := 9) (v := undef) rfl (by kernel_rfl) (by kernel_rfl) (by kernel_rfl) (fun _ _ _ h => h) (Or.inr ⟨rfl, rfl⟩) ?_
          refine wpAny_take (i := 10) (v := undef) rfl (by kernel_rfl) (by kernel_rfl) (by kernel_rfl) (fun _ _ _ h => h) (Or.inr ⟨rfl, rfl⟩) ?_
          refine wpAny_take (i := 11) (v := .bool false) rfl (by kernel_rfl) (by kernel_rfl) (by kernel_rfl) (fun _ _ _ h => h) (Or.inl ⟨rfl, fun w => by go_simp⟩) ?_
          refine wpAny_ready (rs := [12]) (by kernel_rfl) (by simp) ?_
          refine AllReady.cons rfl (fun K hK => ?_) AllReady.nil
          go_simp
          refine hK _ _ ?_
          clear hK K
          refine wpAny_ready (rs := [13]) (by kernel_rfl) (by simp) ?_
          refine AllReady.cons rfl (fun K hK => ?_) AllReady.nil
          refine step_pushAll rfl (.tmp 16) (.tmp 28) _ rfl w.heap.size 4 i0 (.bool false) 1 1 Try.underlying44 hii hz0 hz1 hz2 rfl (by omega) boV boV_len one_bool2 B k d (stTo l ad k) _ 1 1 [false] rfl rfl (k + 1) rfl (by simp only [maxLen]; omega) (by omega) ?_ ?_ ?_ ?_
          · first | exact t1.drew.size | exact (below_trans t1.drew (below_alloc _)).size | (have := t1.drew.size; simp at this ⊢; omega)
          · first | exact (O3.out.drew).alloc _ | exact (O3.out.alloc _).drew | exact O3.out.drew
          · exact Rd.of_block (heap_new (by simp)) rfl
          intro B3 d3 w5 ho3 hg3
          have o4 := Lib.hid ((O3.out.drew).alloc (.cells #[.bool false] 4))
          have v4 := Lib.hid ((V3.out.drew).alloc (.cells #[.bool false] 4))
          have v5 := Lib.hid (v4.out.grown hg3 (v4.out.ne_block o4.out (by decide)))
          have cv5 := v5.out.cell vaV_len (i := 0) (j := 0) rfl rfl
          have fv5 := v5.out.frozen 0
          simp only [Nat.zero_mul, Nat.add_zero] at cv5
          have t5 := below_push (below_trans t1.drew (below_alloc (.cells #[.bool false] 4))) o4.out hg3 (Nat.le_refl _)
          have O5 := Lib.hid ho3
          clear ho3
          refine hK _ _ ?_
          clear hK K
          refine wpAny_ready (rs := [14]) (by kernel_rfl) (by simp) ?_
          refine AllReady.cons rfl (fun K hK => ?_) AllReady.nil
          go_simp
          refine hK _ _ ?_
          clear hK K
          refine wpAny_done (by kernel_rfl) ?_ _
          have ST := v5.out.store vaV_len (i := 0) (j := 0) rfl (by omega) (.slice B3 (k + 1) d3) (.slice B3 (k + 1) d3) rfl
          simp only [Nat.zero_mul, Nat.add_zero, List.set_cons_zero] at ST
          go_wp2
          go_roundw
          case rel => exact ⟨k + 1, by omega, by go_num, ⟨B3, d3, by rw [E.out]; exact O5.out.grown ST.2 (O5.out.ne_block v5.out (by decide)), ST.1⟩, below_setCell t5 _ _ _ (by omega)⟩
          case measure => first | (simp [intOf]; done) | (simp [intOf]; omega)
        · go_simp
          refine hK _ _ ?_
          clear hK K
          refine wpAny_take (i := 5) (v := .bool false) rfl (by kernel_rfl) (by kernel_rfl) (by kernel_rfl) (fun _ _ _ h => h) (Or.inl ⟨rfl, fun w => by go_simp⟩) ?_
          refine wpAny_take (i := 6) (v := undef) rfl (by kernel_rfl) (by kernel_rfl) (by kernel_rfl) (fun _ _ _ h => h) (Or.inr ⟨rfl, rfl⟩) ?_
          refine wpAny_take (i := 7) (v := undef) rfl (by kernel_rfl) (by kernel_rfl) (by kernel_rfl) (fun _ _ _ h => h) (Or.inr ⟨rfl, rfl⟩) ?_
          refine wpAny_take (i := 8) (v := undef) rfl (by kernel_rfl) (by kernel_rfl) (by kernel_rfl) (fun _ _ _ h => h) (Or.inr ⟨rfl, rfl⟩) ?_
          refine wpAny_take (i := 9) (v := undef) rfl (by kernel_rfl) (by kernel_rfl) (by kernel_rfl) (fun _ _ _ h => h) (Or.inr ⟨rfl, rfl⟩) ?_
          refine wpAny_take (i := 10) (v := undef) rfl (by kernel_rfl) (by kernel_rfl) (by kernel_rfl) (fun _ _ _ h => h) (Or.inr ⟨rfl, rfl⟩) ?_
          refine wpAny_take (i := 11) (v := .bool false) rfl (by kernel_rfl) (by kernel_rfl) (by kernel_rfl) (fun _ _ _ h => h) (Or.inl ⟨rfl, fun w => by go_simp⟩) ?_
          refine wpAny_ready (rs := [0, 12]) (by kernel_rfl) (by simp) ?_
          refine AllReady.cons rfl (fun K hK => ?_) (AllReady.cons rfl (fun K hK => ?_) AllReady.nil)
          · go_simp
            refine hK _ _ ?_
            clear hK K
            refine wpAny_ready (rs := [12]) (by kernel_rfl) (by simp) ?_
            refine AllReady.cons rfl (fun K hK => ?_) AllReady.nil
            go_simp
            refine hK _ _ ?_
            clear hK K
            refine wpAny_ready (rs := [13]) (by kernel_rfl) (by simp) ?_
            refine AllReady.cons rfl (fun K hK => ?_) AllReady.nil
            refine step_pushAll rfl (.tmp 16) (.tmp 28) _ rfl w.heap.size 4 i0 (.bool false) 1 1 Try.underlying44 hii hz0 hz1 hz2 rfl (by omega) boV boV_len one_bool2 B k d (stTo l ad k) _ 1 1 [false] rfl rfl (k + 1) rfl (by simp only [maxLen]; omega) (by omega) ?_ ?_ ?_ ?_
            · first | exact t1.drew.size | exact (below_trans t1.drew (below_alloc _)).size | (have := t1.drew.size; simp at this ⊢; omega)
            · first | exact (O3.out.drew).alloc _ | exact (O3.out.alloc _).drew | exact O3.out.drew
            · exact Rd.of_block (heap_new (by simp)) rfl
            intro B3 d3 w5 ho3 hg3
            have o4 := Lib.hid ((O3.out.drew).alloc (.cells #[.bool false] 4))
            have v4 := Lib.hid ((V3.out.drew).alloc (.cells #[.bool false] 4))
            have v5 := Lib.hid (v4.out.grown hg3 (v4.out.ne_block o4.out (by decide)))
            have cv5 := v5.out.cell vaV_len (i := 0) (j := 0) rfl rfl
            have fv5 := v5.out.frozen 0
            simp only [Nat.zero_mul, Nat.add_zero] at cv5
            have t5 := below_push (below_trans t1.drew (below_alloc (.cells #[.bool false] 4))) o4.out hg3 (Nat.le_refl _)
            have O5 := Lib.hid ho3
            clear ho3
            refine hK _ _ ?_
            clear hK K
            refine wpAny_ready (rs := [14]) (by kernel_rfl) (by simp) ?_
            refine AllReady.cons rfl (fun K hK => ?_) AllReady.nil
            go_simp
            refine hK _ _ ?_
            clear hK K
            refine wpAny_done (by kernel_rfl) ?_ _
            have ST := v5.out.store vaV_len (i := 0) (j := 0) rfl (by omega) (.slice B3 (k + 1) d3) (.slice B3 (k + 1) d3) rfl
            simp only [Nat.zero_mul, Nat.add_zero, List.set_cons_zero] at ST
            go_wp2
            go_roundw
            case rel => exact ⟨k + 1, by omega, by go_num, ⟨B3, d3, by rw [E.out]; exact O5.out.grown ST.2 (O5.out.ne_block v5.out (by decide)), ST.1⟩, below_setCell t5 _ _ _ (by omega)⟩
            case measure => first | (simp [intOf]; done) | (simp [intOf]; omega)
          · go_simp
            refine hK _ _ ?_
            clear hK K
            refine wpAny_ready (rs := [0]) (by kernel_rfl) (by simp) ?_
            refine AllReady.cons rfl (fun K hK => ?_) AllReady.nil
            go_simp
            refine hK _ _ ?_
            clear hK K
            refine wpAny_ready (rs := [13]) (by kernel_rfl) (by simp) ?_
            refine AllReady.cons rfl (fun K hK => ?_) AllReady.nil
            refine step_pushAll rfl (.tmp 16) (.tmp 28) _ rfl w.heap.size 4 i0 (.bool false) 1 1 Try.underlying44 hii hz0 hz1 hz2 rfl (by omega) boV boV_len one_bool2 B k d (stTo l ad k) _ 1 1 [false] rfl rfl (k + 1) rfl (by simp only [maxLen]; omega) (by omega) ?_ ?_ ?_ ?_
            · first | exact t1.drew.size | exact (below_trans t1.drew (below_alloc _)).size | (have := t1.drew.size; simp at this ⊢; omega)
            · first | exact (O3.out.drew).alloc _ | exact (O3.out.alloc _).drew | exact O3.out.drew
            · exact Rd.of_block (heap_new (by simp)) rfl
            intro B3 d3 w5 ho3 hg3
            have o4 := Lib.hid ((O3.out.drew).alloc (.cells #[.bool false] 4))
            have v4 := Lib.hid ((V3.out.drew).alloc (.cells #[.bool false] 4))
            have v5 := Lib.hid (v4.out.grown hg3 (v4.out.ne_block o4.out (by decide)))
            have cv5 := v5.out.cell vaV_len (i := 0) (j := 0) rfl rfl
            have fv5 := v5.out.frozen 0
            simp only [Nat.zero_mul, Nat.add_zero] at cv5
            have t5 := below_push (below_trans t1.drew (below_alloc (.cells #[.bool false] 4))) o4.out hg3 (Nat.le_refl _)
            have O5 := Lib.hid ho3
            clear ho3
            refine hK _ _ ?_
            clear hK K
            refine wpAny_ready (rs := [14]) (by kernel_rfl) (by simp) ?_
            refine AllReady.cons rfl (fun K hK => ?_) AllReady.nil
            go_simp
            refine hK _ _ ?_
            clear hK K
            refine wpAny_done (by kernel_rfl) ?_ _
            have ST := v5.out.store vaV_len (i := 0) (j := 0) rfl (by omega) (.slice B3 (k + 1) d3) (.slice B3 (k + 1) d3) rfl
            simp only [Nat.zero_mul, Nat.add_zero, List.set_cons_zero] at ST
            go_wp2
            go_roundw
            case rel => exact ⟨k + 1, by omega, by go_num, ⟨B3, d3, by rw [E.out]; exact O5.out.grown ST.2 (O5.out.ne_block v5.out (by decide)), ST.1⟩, below_setCell t5 _ _ _ (by omega)⟩
            case measure => first | (simp [intOf]; done) | (simp [intOf]; omega)
      · go_upto_region 5 with fail
        have E := Lib.hid (show stTo l ad (k + 1) = stTo l ad k ++ [x.ns.all (gdB (stTo l ad k))] from NX.out)
        clear c0 c1 NX
        generalize hw3 : wr.alloc (.cells #[.slice h.wA h.wn h.wc, .slice h.nA h.nn h.nc] 57) = w3 at *
        generalize hbb : x.ns.all (gdB (stTo l ad k)) = bb at *
        have BB := Lib.hid hbb
        clear hbb
        have cv2 := cell_below (below_alloc (.cells #[.bool bb] 4)) cv
        go_region_law (first
          | (refine step_pushAll rfl (.tmp 16) (.tmp 28) _ rfl w.heap.size 4 i0 (.bool false) 1 1 Try.underlying44 hii hz0 hz1 hz2 rfl (by omega) boV boV_len one_bool2 B k d (stTo l ad k) _ 1 1 [bb] rfl rfl (k + 1) rfl (by simp only [maxLen]; omega) (by omega) ?_ ?_ ?_ ?_
             · first | exact t1.drew.size | exact (below_trans t1.drew (below_alloc _)).size | (have := t1.drew.size; simp at this ⊢; omega)
             · first | exact (O3.out.drew).alloc _ | exact (O3.out.alloc _).drew | exact O3.out.drew
             · exact Rd.of_block (heap_new (by simp)) rfl
             intro B3 d3 w5 ho3 hg3
             have o4 := Lib.hid ((O3.out.drew).alloc (.cells #[.bool bb] 4))
             have v4 := Lib.hid ((V3.out.drew).alloc (.cells #[.bool bb] 4))
             have v5 := Lib.hid (v4.out.grown hg3 (v4.out.ne_block o4.out (by decide)))
             have cv5 := v5.out.cell vaV_len (i := 0) (j := 0) rfl rfl
             have fv5 := v5.out.frozen 0
             simp only [Nat.zero_mul, Nat.add_zero] at cv5
             have t5 := below_push (below_trans t1.drew (below_alloc (.cells #[.bool bb] 4))) o4.out hg3 (Nat.le_refl _)
             have O5 := Lib.hid ho3
             clear ho3)
          | (go_simp; go_at_call 73; refine (conStand_any h.nA h.nn h.nc x.ns (w.heap.size + 1) B k d (stTo l ad k) _ R3.out.drew (show (World.drew _).cell? _ = _ from cv) (O3.out.drew.rd boV_len) NB.out).mono ?_; rintro e wq ⟨rfl, rfl⟩; rw [BB.out]))
        all_goals
          have ST := v5.out.store vaV_len (i := 0) (j := 0) rfl (by omega) (.slice B3 (k + 1) d3) (.slice B3 (k + 1) d3) rfl
          simp only [Nat.zero_mul, Nat.add_zero, List.set_cons_zero] at ST
          go_wp2
          go_roundw
          case rel => exact ⟨k + 1, by omega, by go_num, ⟨B3, d3, by rw [E.out]; exact O5.out.grown ST.2 (O5.out.ne_block v5.out (by decide)), ST.1⟩, below_setCell t5 _ _ _ (by omega)⟩
          case measure => first | (simp [intOf]; done) | (simp [intOf]; omega)
    · obtain rfl : k = n := by omega
      have E := Lib.hid (show stTo l ad k = stB l ad by unfold stB; rw [HL.out])
      have HO := Lib.hid ho
      clear ha hb ho ov
      go_wp2
      go_ret
      exact ⟨⟨_, _, rfl, by rw [← E.out]; exact HO.out⟩, hbw⟩


end Go.Proofs.Ytndoapgalbljpaa
