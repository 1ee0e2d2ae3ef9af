/-
  YtndoapgalbljpaaDivB: clauses: what depends on what, both sides. (Printed by wip/gen/divb.py.)
-/
import Derived.Test.YtndoapgalbljpaaDivA
import Derived.Test.YtndoapgalbljpaaDepM
import Derived.Test.YtndoapgalbljpaaHas
import Derived.Test.YtndoapgalbljpaaPut
namespace Go.Proofs.Ytndoapgalbljpaa
open Go Go.RowKit Go.Sort
set_option linter.unusedVariables false

theorem one_bool2 : ∀ x : Bool, ∀ u ∈ boV x, u.oneCell' = true := by intro x u h; simp [boV] at h; subst h; rfl
theorem ret_sl_bool' {A : Option Addr} {n c : Nat} {b d : Bool} (h : b = d) : Ending.returned (.tuple #[.slice A n c, .bool b]) = .returned (.tuple #[.slice A n c, .bool d]) := by rw [h]
theorem ret_iib {a a' b b' : Int} {x x' : Bool} (h1 : a = a') (h2 : b = b') (h3 : x = x') : Ending.returned (.tuple #[.int .i64 a, .int .i64 b, .bool x]) = .returned (.tuple #[.int .i64 a', .int .i64 b', .bool x']) := by rw [h1, h2, h3]


set_option maxRecDepth 100000 in
set_option maxHeartbeats 2000000 in
theorem dependsOn_any (A : Option Addr) (n c : Nat) (hs : List HC) (l : List CL) (i : Nat) (w : World) (ha : RdC w A n c hs l) (hv : clsB l = true) (hi : i < l.length) :
    Calls Try.prog 72 #[.slice A n c, .int .i64 (i : Int)] w fun e w' => (∃ B d, e = .returned (.slice B n d) ∧ Own boV 1 w' w.heap.size 4 B n d (dpB l i)) ∧ Below w.heap.size w w' := by
  obtain ⟨i0, hii, hz0, hz1, hz2⟩ := info_parts Try.infobo
  have hL := ha.len
  have h8 := cls_len hv
  have hn8 : n ≤ 8 := by omega
  have hin : i < n := by omega
  have HL := Lib.hid hL
  have HV := Lib.hid hv
  clear hL hv hi h8
  go_enter Try.func72, Try.ntmps72
  go_wp2_with (at_make; refine wpList_make_full _ rfl _ _ _ rfl w.heap.size 4 i0 (.bool false) 1 Try.underlying44 hii hz0 hz1 .i64 .i64 _ _ n rfl rfl rfl rfl (by rw [hz2]; omega) (by simp only [maxLen]; omega) (Nat.le_refl _) ?_; intro w1 hown hg1)
  have ho : Own boV 1 w1 w.heap.size 4 (some ⟨w.heap.size, 0, none⟩) n n (List.replicate n false) := ⟨by simp, by rw [← made_flat (z := (Value.cells (.bool false))) boV_len (by omega) false rfl]; exact hown⟩
  have hb1 : Below w.heap.size w w1 := below_of_grown hg1 (Nat.le_refl _) (fun k hk => by cases hk)
  have S0 := Lib.hid (seen_start HV.out (i := i))
  rw [HL.out] at S0
  clear hown hg1
  go_loopw [6] (fun kv wr => ∃ (p : Nat) (z : Int) (bs : List Bool), p ≤ i + 1 ∧ kv = .int .i64 z ∧ z = (p : Int) - 1 ∧ Seen l i p bs ∧ Own boV 1 wr w.heap.size 4 (some ⟨w.heap.size, 0, none⟩) n n bs ∧ Below w.heap.size w wr) (fun kv _ => (intOf kv + 1).toNat)
  case atStart => exact ⟨i + 1, (i : Int), _, Nat.le_refl _, rfl, by omega, S0.out, ho, hb1⟩
  case round =>
    clear ho hb1 S0
    obtain ⟨p, z, bs, hp, rfl, hz, hS, ho, hbw⟩ := hrel
    have HS := Lib.hid hS
    clear hS
    cases p with
    | zero =>
      obtain rfl : z = -1 := by omega
      have E := Lib.hid (seen_end HS.out)
      clear ha hz
      have HO := Lib.hid ho
      clear ho
      go_wp2
      go_ret
      exact ⟨⟨_, _, rfl, by rw [← E.out]; exact HO.out⟩, hbw⟩
    | succ q =>
      obtain rfl : z = (q : Int) := by omega
      clear hz
      have hqn : q < n := by omega
      obtain ⟨b1, o1, h, x, rfl, hx, hh, c0, c1, x0, x1⟩ := (ha.below hbw).at hqn
      have HH := Lib.hid hh
      have HX := Lib.hid hx
      have ND := Lib.hid (nd_of hx)
      have hql : q < l.length := by rw [HL.out]; exact hqn
      have ACT := Lib.hid (seen_act HV.out HS.out hql)
      have NB := Lib.hid (fun y (hy : y ∈ x.ns) => ns_bd HV.out hx hy)
      have hnn := x1.le
      obtain ⟨b, hb⟩ : ∃ b, bs[q]? = some b := ⟨_, List.getElem?_eq_getElem (by rw [HS.out.1]; exact hql)⟩
      have cb := ho.cell boV_len (i := q) (j := 0) hb rfl
      simp only [Nat.mul_one, Nat.add_zero] at cb
      have GD := Lib.hid (show bs.getD q false = b by simp [List.getD, hb])
      have HO := Lib.hid ho
      clear hx hh hql hb ho
      by_cases hqi : q = i
      · have AC : Hid (q = i ∨ Dep l i q) := .inl hqi
        have hqi' : ((q : Int) == (i : Int)) = true := by rw [hqi]; simp
        clear hqi
        have X1 := Lib.hid x1
        clear x0 x1
        go_wp2
        obtain ⟨wo, hwo⟩ : ∃ wo : World, wo = wr := ⟨_, rfl⟩
        subst hwo
        go_loopw [32] (fun tv wr => ∃ t : Nat, t ≤ h.nn ∧ tv = .int .i64 t ∧ Own boV 1 wr w.heap.size 4 (some ⟨w.heap.size, 0, none⟩) n n (setT bs (x.ns.take t)) ∧ Below w.heap.size w wr) (fun tv _ => h.nn - (intOf tv).toNat)
        case atStart => exact ⟨0, Nat.zero_le _, rfl, by simpa [setT] using HO.out, hbw⟩
        case round =>
          clear hbw
          obtain ⟨t, ht, rfl, ho2, hb2⟩ := hrel
          by_cases hlt : t < h.nn
          · obtain ⟨b1', o1', h', x', -, hx', hh', -, -, -, x1'⟩ := (ha.below hb2).at hqn
            obtain rfl : h = h' := by have h5 := HH.out; rw [hh'] at h5; injection h5 with h5; exact h5.symm
            obtain rfl : x = x' := by have h5 := HX.out; rw [hx'] at h5; injection h5 with h5; exact h5.symm
            obtain ⟨b2, o2, y, hAe, hy, d1⟩ := x1'.in hlt
            clear hx' hh' x1' ha
            have hyb := NB.out y (List.mem_of_getElem? hy)
            obtain ⟨m, rfl⟩ := Int.eq_ofNat_of_zero_le hyb.1
            have hmq : m < q := by have := hyb.2; omega
            have NXT := Lib.hid (setT_next (bs := bs) hy)
            obtain ⟨bm, hbm⟩ : ∃ bm, (setT bs (x.ns.take t))[m]? = some bm := ⟨_, List.getElem?_eq_getElem (by rw [setT_len, HS.out.1, HL.out]; omega)⟩
            have cm := ho2.cell boV_len (i := m) (j := 0) hbm rfl
            have fm' := ho2.frozen m
            simp only [Nat.mul_one, Nat.add_zero] at cm
            have ST := Lib.hid (ho2.store boV_len (i := m) (j := 0) hbm (by omega) true (.bool true) rfl)
            have hA2 := hAe
            clear hy hyb hbm ho2
            rw [hA2]
            clear hA2 hAe
            have hm0 : (0 : Int) ≤ (m : Int) := by omega
            have hmn : (m : Int) < (n : Int) := by omega
            go_wp2
            have O2 := ST.out.1
            have G := ST.out.2
            simp only [Nat.mul_one, Nat.add_zero] at O2 G
            go_roundw
            case rel => exact ⟨t + 1, by omega, by go_num, by rw [NXT.out]; exact O2, below_setCell hb2 _ _ _ (Nat.le_refl _)⟩
            case measure => first | (simp [intOf]; done) | (simp [intOf]; omega)
          · obtain rfl : t = h.nn := by omega
            have HN : Hid (Seen l i q (setT bs (x.ns.take h.nn))) := by
              show Seen _ _ _ _
              rw [List.take_of_length_le (by rw [X1.out.len]; exact Nat.le_refl _), ← ND.out]
              exact seen_yes HV.out HS.out (by rw [HL.out]; exact hqn) AC.out
            have HO2 := Lib.hid ho2
            clear ho2
            go_wp2
            go_roundw
            case rel => exact ⟨q, (q : Int) - 1, _, by omega, rfl, rfl, HN.out, HO2.out, hb2⟩
            case measure => first | (simp [intOf]; done) | (simp [intOf]; omega)
      · have hqi' : ((q : Int) == (i : Int)) = false := by simp; omega
        cases b
        · have NA : Hid (¬ (q = i ∨ Dep l i q)) := fun h9 => by
            rcases h9 with h9 | h9
            · exact hqi h9
            · have := ACT.out.2 h9; rw [GD.out] at this; cases this
          have HN := Lib.hid (seen_no HS.out NA.out)
          clear x0 x1 hqi ha
          go_wp2
          go_roundw
          case rel => exact ⟨q, (q : Int) - 1, bs, by omega, rfl, rfl, HN.out, HO.out, hbw⟩
          case measure => first | (simp [intOf]; done) | (simp [intOf]; omega)
        · have AC : Hid (q = i ∨ Dep l i q) := .inr (ACT.out.1 GD.out)
          clear hqi
          have X1 := Lib.hid x1
          clear x0 x1
          go_wp2
          obtain ⟨wo, hwo⟩ : ∃ wo : World, wo = wr := ⟨_, rfl⟩
          subst hwo
          go_loopw [32] (fun tv wr => ∃ t : Nat, t ≤ h.nn ∧ tv = .int .i64 t ∧ Own boV 1 wr w.heap.size 4 (some ⟨w.heap.size, 0, none⟩) n n (setT bs (x.ns.take t)) ∧ Below w.heap.size w wr) (fun tv _ => h.nn - (intOf tv).toNat)
          case atStart => exact ⟨0, Nat.zero_le _, rfl, by simpa [setT] using HO.out, hbw⟩
          case round =>
            clear hbw
            obtain ⟨t, ht, rfl, ho2, hb2⟩ := hrel
            by_cases hlt : t < h.nn
            · obtain ⟨b1', o1', h', x', -, hx', hh', -, -, -, x1'⟩ := (ha.below hb2).at hqn
              obtain rfl : h = h' := by have h5 := HH.out; rw [hh'] at h5; injection h5 with h5; exact h5.symm
              obtain rfl : x = x' := by have h5 := HX.out; rw [hx'] at h5; injection h5 with h5; exact h5.symm
              obtain ⟨b2, o2, y, hAe, hy, d1⟩ := x1'.in hlt
              clear hx' hh' x1' ha
              have hyb := NB.out y (List.mem_of_getElem? hy)
              obtain ⟨m, rfl⟩ := Int.eq_ofNat_of_zero_le hyb.1
              have hmq : m < q := by have := hyb.2; omega
              have NXT := Lib.hid (setT_next (bs := bs) hy)
              obtain ⟨bm, hbm⟩ : ∃ bm, (setT bs (x.ns.take t))[m]? = some bm := ⟨_, List.getElem?_eq_getElem (by rw [setT_len, HS.out.1, HL.out]; omega)⟩
              have cm := ho2.cell boV_len (i := m) (j := 0) hbm rfl
              have fm' := ho2.frozen m
              simp only [Nat.mul_one, Nat.add_zero] at cm
              have ST := Lib.hid (ho2.store boV_len (i := m) (j := 0) hbm (by omega) true (.bool true) rfl)
              have hA2 := hAe
              clear hy hyb hbm ho2
              rw [hA2]
              clear hA2 hAe
              have hm0 : (0 : Int) ≤ (m : Int) := by omega
              have hmn : (m : Int) < (n : Int) := by omega
              go_wp2
              have O2 := ST.out.1
              have G := ST.out.2
              simp only [Nat.mul_one, Nat.add_zero] at O2 G
              go_roundw
              case rel => exact ⟨t + 1, by omega, by go_num, by rw [NXT.out]; exact O2, below_setCell hb2 _ _ _ (Nat.le_refl _)⟩
              case measure => first | (simp [intOf]; done) | (simp [intOf]; omega)
            · obtain rfl : t = h.nn := by omega
              have HN : Hid (Seen l i q (setT bs (x.ns.take h.nn))) := by
                show Seen _ _ _ _
                rw [List.take_of_length_le (by rw [X1.out.len]; exact Nat.le_refl _), ← ND.out]
                exact seen_yes HV.out HS.out (by rw [HL.out]; exact hqn) AC.out
              have HO2 := Lib.hid ho2
              clear ho2
              go_wp2
              go_roundw
              case rel => exact ⟨q, (q : Int) - 1, _, by omega, rfl, rfl, HN.out, HO2.out, hb2⟩
              case measure => first | (simp [intOf]; done) | (simp [intOf]; omega)


end Go.Proofs.Ytndoapgalbljpaa
