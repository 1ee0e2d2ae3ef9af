/-
  YtndoapgalbljpaaPut: l1Put: a number put to its place, once. (Printed by wip/gen/put.py.)
-/
import Derived.Test.YtndoapgalbljpaaHelp
import Derived.Test.YtndoapgalbljpaaUniq
import Derived.Deep.RegionLaw
import Derived.Deep.DeepCutAuto
namespace Go.Proofs.Ytndoapgalbljpaa
open Go Go.RowKit Go.Sort
set_option linter.unusedVariables false

theorem Try.infoIn2 : (Try.prog.info? 3).map (fun i => (i.zero, i.size, i.bytes)) = some (some (.int .i64 0), 1, 8) := by kernel_rfl
theorem one_int2 (x : Int) : ∀ u ∈ [Value.int .i64 x], u.oneCell' = true := by intro u h; simp at h; subst h; rfl
theorem Rd.drop {α : Type} {enc : α → List Value} {sz : Nat} {w : World} {b o n c : Nat} {l : List α} (h : Rd enc sz w (some ⟨b, o, none⟩) n c l) {k : Nat} (hk : k ≤ n) : Rd enc sz w (some ⟨b, o + k * sz, none⟩) (n - k) (c - k) (l.drop k) := by
  have h1 := h.cap
  have h2 := h.max
  refine ⟨by rw [List.length_drop, h.len], by omega, by omega, (fun e => by cases e), fun h0 => ?_⟩
  obtain ⟨b', o', e, hc⟩ := h.at_ (by omega)
  injection e with e
  injection e with e1 e2
  subst e1 e2
  refine ⟨b, o + k * sz, rfl, fun i x hx j u hu => ?_⟩
  rw [List.getElem?_drop] at hx
  have := hc (k + i) x hx j u hu
  rw [Nat.add_mul] at this
  rw [← this]
  congr 2
  omega
theorem Rd.take {α : Type} {enc : α → List Value} {sz : Nat} {w : World} {A : Option Addr} {n c : Nat} {l : List α} (h : Rd enc sz w A n c l) {k : Nat} (hk : k ≤ n) : Rd enc sz w A k c (l.take k) := by
  refine ⟨by rw [List.length_take, h.len]; omega, by have := h.cap; omega, h.max, h.nil0, fun h0 => ?_⟩
  obtain ⟨b, off, e, hc⟩ := h.at_ (by omega)
  refine ⟨b, off, e, fun i x hx j u hu => hc i x ?_ j u hu⟩
  have hi : i < (l.take k).length := (List.getElem?_eq_some_iff.1 hx).1
  rw [List.getElem?_take] at hx
  split at hx
  · exact hx
  · cases hx


theorem Rd.none_left {α : Type} {enc : α → List Value} {sz : Nat} {w : World} (A : Option Addr) (c : Nat) (hc : c ≤ maxLen) (h0 : A = none → c = 0) : Rd enc sz w A 0 c [] := ⟨rfl, Nat.zero_le _, hc, h0, fun h => absurd h (by omega)⟩
theorem putZ_at {x : Int} : ∀ {l : List Int} {k : Nat}, (∀ j y, j < k → l[j]? = some y → y < x) → (∀ y, l[k]? = some y → ¬ y < x) → k ≤ l.length → putZ x l = if l[k]? = some x then l else l.take k ++ x :: l.drop k
  | [], k, _, _, hk => by
    have : k = 0 := by simpa using hk
    subst this
    simp [putZ]
  | y :: t, 0, _, h2, _ => by
    have h3 := h2 y (by simp)
    unfold putZ
    rw [if_neg h3]
    simp
  | y :: t, k + 1, h1, h2, hk => by
    have h3 := h1 0 y (by omega) (by simp)
    unfold putZ
    rw [if_pos h3, putZ_at (l := t) (k := k) (fun j z hj hz => h1 (j + 1) z (by omega) (by simpa using hz)) (fun z hz => h2 z (by simpa using hz)) (by simpa using hk)]
    simp only [List.getElem?_cons_succ, List.take_succ_cons, List.drop_succ_cons]
    split <;> simp

set_option maxRecDepth 100000 in
set_option maxHeartbeats 4000000 in
theorem l1Put_any (A : Option Addr) (n c base : Nat) (r : List Int) (x : Int) (w : World) (ho : Own inV 1 w base 3 A n c r) (hn : n ≤ 1048576) (hbase : base ≤ w.heap.size) :
    Calls Try.prog 34 #[.slice A n c, .int .i64 x] w fun e w' => (∃ B q d, e = .returned (.slice B q d) ∧ Own inV 1 w' base 3 B q d (putZ x r)) ∧ Below w.heap.size w w' := by
  obtain ⟨i0, hi, hz0, hz1, hz2⟩ := info_parts Try.infoIn2
  have ha := ho.rd inV_len
  have hm := ha.le
  have hcap := ha.cap
  have HO := Lib.hid ho
  have HL := Lib.hid ha.len
  clear ho
  go_enter Try.func34, Try.ntmps34
  go_wp2
  go_loop [5] (fun i => ∃ k : Nat, k ≤ n ∧ i = .int .i64 k ∧ ∀ j y, j < k → r[j]? = some y → y < x) (fun i => n - (intOf i).toNat)
  case atStart => exact ⟨0, Nat.zero_le _, rfl, fun j y hj => absurd hj (by omega)⟩
  case round =>
    obtain ⟨k, hk, rfl, hup⟩ := hrel
    have HU := Lib.hid hup
    clear hup
    have RT := Lib.hid (ha.take hk)
    by_cases hlt : k < n
    · obtain ⟨b8, o8, y, rfl, hs, c0⟩ := ha.in hlt
      have HS := Lib.hid hs
      have RD := Lib.hid (ha.drop hk)
      rw [Nat.mul_one] at RD
      clear hs ha
      by_cases h5 : y < x
      · have HN : Hid (∀ j z, j < k + 1 → r[j]? = some z → z < x) := fun j z hj hz => by
          by_cases e : j = k
          · subst e; rw [HS.out] at hz; injection hz with hz; rw [← hz]; exact h5
          · exact HU.out j z (by omega) hz
        go_wp2
        go_round
        case rel => exact ⟨k + 1, by omega, by go_num, HN.out⟩
        case measure => simp [intOf]; omega
      · have P := Lib.hid (putZ_at (x := x) HU.out (fun z hz => by rw [HS.out] at hz; injection hz with hz; rw [← hz]; exact h5) (by rw [HL.out]; exact hk))
        cases h6 : (y == x)
        · have E := Lib.hid (show putZ x r = r.take k ++ x :: r.drop k by
            rw [P.out, if_neg (by rw [HS.out]; intro h; injection h with h; simp [h] at h6)])
          have hk0 : (0 : Int) ≤ (k : Int) := by omega
          have hkc : (k : Int) ≤ (c : Int) := by omega
          have hkn : (k : Int) ≤ (n : Int) := by omega
          have hkc' : k ≤ c := by omega
          have hnc : (n : Int) ≤ (c : Int) := by omega
          have hck : ¬ c = k := by omega
          go_upto_region 6 with fail
          go_region_law (first
            | (refine step_pushAll rfl (.tmp 33) (.tmp 36) _ rfl w.heap.size 3 i0 (.int .i64 0) 1 8 Try.underlying38 hi hz0 hz1 hz2 rfl (by omega) inV inV_len one_int2  _ 0 0 [] _ k c (r.take k) rfl rfl k (by omega) (by simp only [maxLen]; omega) (by omega) (by first | omega | (simp; done) | (simp; omega)) ?_ ?_ ?_
               · exact Own.of_block (by first | exact heap_new (by simp) | exact heap_old (heap_new (by simp)) | exact heap_old (heap_old (heap_new (by simp)))) (by first | omega | (simp; done) | (simp; omega))
               · first | exact (RT.out.alloc _).drew | exact ((RT.out.alloc _).alloc _).drew | exact (((RT.out.alloc _).alloc _).alloc _).drew
               intro B1 d1 w1 o1 g1
               have s1 : w.heap.size ≤ w1.heap.size := by have := g1.size; simp at this; omega
               have b1 : Below w.heap.size w w1 := (by first | exact (below_alloc _).drew | exact (below_alloc2 _ _).drew | exact (below_alloc3 _ _ _).drew : Below w.heap.size w _).grown g1 (by first | omega | (simp; done) | (simp; omega)) (fun k hk => by simp [blockOf] at hk; omega))
            | (refine step_pushAll rfl (.tmp 37) (.tmp 39) _ rfl w.heap.size 3 i0 (.int .i64 0) 1 8 Try.underlying38 hi hz0 hz1 hz2 rfl (by omega) inV inV_len one_int2  _ k _ (r.take k) _ 1 1 [x] rfl rfl (k + 1) rfl (by simp only [maxLen]; omega) (by omega) (by first | omega | (simp; omega)) ?_ ?_ ?_
               · first | exact o1 | exact o1.alloc _
               · first | exact Rd.of_block (heap_new (by simp)) rfl | exact Rd.of_block (heap_grown g1 (by first | exact heap_new (by simp) | exact heap_old (heap_new (by simp)) | exact heap_old (heap_old (heap_new (by simp)))) (by simp [blockOf] <;> omega)) rfl
               intro B2 d2 w2 o2 g2
               have b2 : Below w.heap.size w w2 := by first | exact below_push b1 o1 g2 (Nat.le_refl _) | exact below_push (below_trans b1 (below_alloc _)) (o1.alloc _) g2 (Nat.le_refl _))
            | (refine step_pushAll rfl (.tmp 40) (.tmp 43) _ rfl w.heap.size 3 i0 (.int .i64 0) 1 8 Try.underlying38 hi hz0 hz1 hz2 rfl (by omega) inV inV_len one_int2  _ (k + 1) _ (r.take k ++ [x]) (some ⟨b8, o8 + k, none⟩) (n - k) (c - k) (r.drop k) rfl rfl (n + 1) (by omega) (by simp only [maxLen]; omega) (by omega) (by have := b2.size; omega) ?_ ?_ ?_
               · exact o2
               · exact RD.out.below b2
               intro B3 d3 w3 o3 g3
               have b3 : Below w.heap.size w w3 := below_push b2 o2 g3 (Nat.le_refl _)))
          all_goals
            have OO := Lib.hid o3
            clear o3 o2 o1
            go_wp2
            go_ret
            exact ⟨⟨_, _, _, rfl, by rw [E.out]; have h9 := OO.out.base_le hbase; simpa using h9⟩, b3⟩
        · have E := Lib.hid (show putZ x r = r by rw [P.out, if_pos (by rw [HS.out]; simp at h6; rw [h6])])
          go_wp2
          go_ret
          exact ⟨⟨_, _, _, rfl, by rw [E.out]; exact HO.out⟩, Below.refl _ _⟩
    · obtain rfl : k = n := by omega
      have E := Lib.hid (show putZ x r = r.take k ++ x :: r.drop k by
        rw [putZ_at (x := x) HU.out (fun z hz => by have := (List.getElem?_eq_some_iff.1 hz).1; rw [HL.out] at this; omega) (by rw [HL.out]; exact Nat.le_refl _), if_neg (by rw [List.getElem?_eq_none (by rw [HL.out]; exact Nat.le_refl _)]; simp)])
      have DR := Lib.hid (show r.drop k = [] by rw [List.drop_eq_nil_iff]; rw [HL.out]; exact Nat.le_refl _)
      have hmx := ha.max
      have hk0 : (0 : Int) ≤ (k : Int) := by omega
      have hkc : (k : Int) ≤ (c : Int) := by omega
      have hkc' : k ≤ c := by omega
      cases A with
      | none =>
        have hc0 := ha.nil0 rfl
        subst hc0
        obtain rfl : k = 0 := by omega
        have RD : Hid (Rd inV 1 w none 0 0 (r.drop 0)) := by
          have h := DR.out
          show Rd _ _ _ _ _ _ _
          rw [h]; exact Rd.none_left _ _ (by omega) (fun _ => rfl)
        clear ha
        go_upto_region 6 with fail
        go_region_law (first
          | (refine step_pushAll rfl (.tmp 33) (.tmp 36) _ rfl w.heap.size 3 i0 (.int .i64 0) 1 8 Try.underlying38 hi hz0 hz1 hz2 rfl (by omega) inV inV_len one_int2  _ 0 0 [] _ 0 0 (r.take 0) rfl rfl 0 (by omega) (by simp only [maxLen]; omega) (by omega) (by first | omega | (simp; done) | (simp; omega)) ?_ ?_ ?_
             · exact Own.of_block (by first | exact heap_new (by simp) | exact heap_old (heap_new (by simp)) | exact heap_old (heap_old (heap_new (by simp)))) (by first | omega | (simp; done) | (simp; omega))
             · first | exact (RT.out.alloc _).drew | exact ((RT.out.alloc _).alloc _).drew | exact (((RT.out.alloc _).alloc _).alloc _).drew
             intro B1 d1 w1 o1 g1
             have s1 : w.heap.size ≤ w1.heap.size := by have := g1.size; simp at this; omega
             have b1 : Below w.heap.size w w1 := (by first | exact (below_alloc _).drew | exact (below_alloc2 _ _).drew | exact (below_alloc3 _ _ _).drew : Below w.heap.size w _).grown g1 (by first | omega | (simp; done) | (simp; omega)) (fun k hk => by simp [blockOf] at hk; omega))
          | (refine step_pushAll rfl (.tmp 37) (.tmp 39) _ rfl w.heap.size 3 i0 (.int .i64 0) 1 8 Try.underlying38 hi hz0 hz1 hz2 rfl (by omega) inV inV_len one_int2  _ 0 _ (r.take 0) _ 1 1 [x] rfl rfl (0 + 1) rfl (by simp only [maxLen]; omega) (by omega) (by first | omega | (simp; omega)) ?_ ?_ ?_
             · first | exact o1 | exact o1.alloc _
             · first | exact Rd.of_block (heap_new (by simp)) rfl | exact Rd.of_block (heap_grown g1 (by first | exact heap_new (by simp) | exact heap_old (heap_new (by simp)) | exact heap_old (heap_old (heap_new (by simp)))) (by simp [blockOf] <;> omega)) rfl
             intro B2 d2 w2 o2 g2
             have b2 : Below w.heap.size w w2 := by first | exact below_push b1 o1 g2 (Nat.le_refl _) | exact below_push (below_trans b1 (below_alloc _)) (o1.alloc _) g2 (Nat.le_refl _))
          | (refine step_pushAll rfl (.tmp 40) (.tmp 43) _ rfl w.heap.size 3 i0 (.int .i64 0) 1 8 Try.underlying38 hi hz0 hz1 hz2 rfl (by omega) inV inV_len one_int2  _ (0 + 1) _ (r.take 0 ++ [x]) none 0 0 (r.drop 0) rfl rfl (0 + 1) (by omega) (by simp only [maxLen]; omega) (by omega) (by have := b2.size; omega) ?_ ?_ ?_
             · exact o2
             · exact RD.out.below b2
             intro B3 d3 w3 o3 g3
             have b3 : Below w.heap.size w w3 := below_push b2 o2 g3 (Nat.le_refl _)))
        all_goals
          have OO := Lib.hid o3
          clear o3 o2 o1
          go_wp2
          go_ret
          exact ⟨⟨_, _, _, rfl, by rw [E.out]; have h9 := OO.out.base_le hbase; simpa using h9⟩, b3⟩
      | some a8 =>
        by_cases hck : c = k
        · subst hck
          have RD : Hid (Rd inV 1 w (some a8) 0 0 (r.drop c)) := by
            have h := DR.out
            show Rd _ _ _ _ _ _ _
            rw [h]; exact Rd.none_left _ _ (by omega) (fun e => by cases e)
          clear ha
          go_upto_region 6 with fail
          go_region_law (first
            | (refine step_pushAll rfl (.tmp 33) (.tmp 36) _ rfl w.heap.size 3 i0 (.int .i64 0) 1 8 Try.underlying38 hi hz0 hz1 hz2 rfl (by omega) inV inV_len one_int2  _ 0 0 [] _ c c (r.take c) rfl rfl c (by omega) (by simp only [maxLen]; omega) (by omega) (by first | omega | (simp; done) | (simp; omega)) ?_ ?_ ?_
               · exact Own.of_block (by first | exact heap_new (by simp) | exact heap_old (heap_new (by simp)) | exact heap_old (heap_old (heap_new (by simp)))) (by first | omega | (simp; done) | (simp; omega))
               · first | exact (RT.out.alloc _).drew | exact ((RT.out.alloc _).alloc _).drew | exact (((RT.out.alloc _).alloc _).alloc _).drew
               intro B1 d1 w1 o1 g1
               have s1 : w.heap.size ≤ w1.heap.size := by have := g1.size; simp at this; omega
               have b1 : Below w.heap.size w w1 := (by first | exact (below_alloc _).drew | exact (below_alloc2 _ _).drew | exact (below_alloc3 _ _ _).drew : Below w.heap.size w _).grown g1 (by first | omega | (simp; done) | (simp; omega)) (fun k hk => by simp [blockOf] at hk; omega))
            | (refine step_pushAll rfl (.tmp 37) (.tmp 39) _ rfl w.heap.size 3 i0 (.int .i64 0) 1 8 Try.underlying38 hi hz0 hz1 hz2 rfl (by omega) inV inV_len one_int2  _ c _ (r.take c) _ 1 1 [x] rfl rfl (c + 1) rfl (by simp only [maxLen]; omega) (by omega) (by first | omega | (simp; omega)) ?_ ?_ ?_
               · first | exact o1 | exact o1.alloc _
               · first | exact Rd.of_block (heap_new (by simp)) rfl | exact Rd.of_block (heap_grown g1 (by first | exact heap_new (by simp) | exact heap_old (heap_new (by simp)) | exact heap_old (heap_old (heap_new (by simp)))) (by simp [blockOf] <;> omega)) rfl
               intro B2 d2 w2 o2 g2
               have b2 : Below w.heap.size w w2 := by first | exact below_push b1 o1 g2 (Nat.le_refl _) | exact below_push (below_trans b1 (below_alloc _)) (o1.alloc _) g2 (Nat.le_refl _))
            | (refine step_pushAll rfl (.tmp 40) (.tmp 43) _ rfl w.heap.size 3 i0 (.int .i64 0) 1 8 Try.underlying38 hi hz0 hz1 hz2 rfl (by omega) inV inV_len one_int2  _ (c + 1) _ (r.take c ++ [x]) (some a8) 0 0 (r.drop c) rfl rfl (c + 1) (by omega) (by simp only [maxLen]; omega) (by omega) (by have := b2.size; omega) ?_ ?_ ?_
               · exact o2
               · exact RD.out.below b2
               intro B3 d3 w3 o3 g3
               have b3 : Below w.heap.size w w3 := below_push b2 o2 g3 (Nat.le_refl _)))
          all_goals
            have OO := Lib.hid o3
            clear o3 o2 o1
            go_wp2
            go_ret
            exact ⟨⟨_, _, _, rfl, by rw [E.out]; have h9 := OO.out.base_le hbase; simpa using h9⟩, b3⟩
        · have RD : Hid (Rd inV 1 w (some (a8.add k)) 0 (c - k) (r.drop k)) := by
            have h := DR.out
            show Rd _ _ _ _ _ _ _
            rw [h]; exact Rd.none_left _ _ (by omega) (fun e => by cases e)
          clear ha
          go_upto_region 6 with fail
          go_region_law (first
            | (refine step_pushAll rfl (.tmp 33) (.tmp 36) _ rfl w.heap.size 3 i0 (.int .i64 0) 1 8 Try.underlying38 hi hz0 hz1 hz2 rfl (by omega) inV inV_len one_int2  _ 0 0 [] _ k c (r.take k) rfl rfl k (by omega) (by simp only [maxLen]; omega) (by omega) (by first | omega | (simp; done) | (simp; omega)) ?_ ?_ ?_
               · exact Own.of_block (by first | exact heap_new (by simp) | exact heap_old (heap_new (by simp)) | exact heap_old (heap_old (heap_new (by simp)))) (by first | omega | (simp; done) | (simp; omega))
               · first | exact (RT.out.alloc _).drew | exact ((RT.out.alloc _).alloc _).drew | exact (((RT.out.alloc _).alloc _).alloc _).drew
               intro B1 d1 w1 o1 g1
               have s1 : w.heap.size ≤ w1.heap.size := by have := g1.size; simp at this; omega
               have b1 : Below w.heap.size w w1 := (by first | exact (below_alloc _).drew | exact (below_alloc2 _ _).drew | exact (below_alloc3 _ _ _).drew : Below w.heap.size w _).grown g1 (by first | omega | (simp; done) | (simp; omega)) (fun k hk => by simp [blockOf] at hk; omega))
            | (refine step_pushAll rfl (.tmp 37) (.tmp 39) _ rfl w.heap.size 3 i0 (.int .i64 0) 1 8 Try.underlying38 hi hz0 hz1 hz2 rfl (by omega) inV inV_len one_int2  _ k _ (r.take k) _ 1 1 [x] rfl rfl (k + 1) rfl (by simp only [maxLen]; omega) (by omega) (by first | omega | (simp; omega)) ?_ ?_ ?_
               · first | exact o1 | exact o1.alloc _
               · first | exact Rd.of_block (heap_new (by simp)) rfl | exact Rd.of_block (heap_grown g1 (by first | exact heap_new (by simp) | exact heap_old (heap_new (by simp)) | exact heap_old (heap_old (heap_new (by simp)))) (by simp [blockOf] <;> omega)) rfl
               intro B2 d2 w2 o2 g2
               have b2 : Below w.heap.size w w2 := by first | exact below_push b1 o1 g2 (Nat.le_refl _) | exact below_push (below_trans b1 (below_alloc _)) (o1.alloc _) g2 (Nat.le_refl _))
            | (refine step_pushAll rfl (.tmp 40) (.tmp 43) _ rfl w.heap.size 3 i0 (.int .i64 0) 1 8 Try.underlying38 hi hz0 hz1 hz2 rfl (by omega) inV inV_len one_int2  _ (k + 1) _ (r.take k ++ [x]) (some (a8.add k)) 0 (c - k) (r.drop k) rfl rfl (k + 1) (by omega) (by simp only [maxLen]; omega) (by omega) (by have := b2.size; omega) ?_ ?_ ?_
               · exact o2
               · exact RD.out.below b2
               intro B3 d3 w3 o3 g3
               have b3 : Below w.heap.size w w3 := below_push b2 o2 g3 (Nat.le_refl _)))
          all_goals
            have OO := Lib.hid o3
            clear o3 o2 o1
            go_wp2
            go_ret
            exact ⟨⟨_, _, _, rfl, by rw [E.out]; have h9 := OO.out.base_le hbase; simpa using h9⟩, b3⟩
end Go.Proofs.Ytndoapgalbljpaa

