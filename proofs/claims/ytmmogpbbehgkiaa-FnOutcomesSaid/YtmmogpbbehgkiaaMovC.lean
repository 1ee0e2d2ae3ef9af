/-
  YtmmogpbbehgkiaaMovC: motions that were open together: MovedTogether on both sides, by contracts. (Printed by wip/gen/movc.py.)
-/
import Derived.Test.YtmmogpbbehgkiaaMovB
import Derived.Test.YtmmogpbbehgkiaaHas
namespace Go.Proofs.Ytmmogpbbehgkiaa
open Go Go.RowKit Go.Sort
set_option linter.unusedVariables false

theorem Try.infoSl : (Try.prog.info? 37).map (fun i => (i.zero, i.size, i.bytes)) = some (some (.slice none 0 0), 1, 24) := by kernel_rfl
theorem one_hi : ∀ x : HI, ∀ u ∈ hIV x, u.oneCell' = true := by intro x u h; simp [hIV] at h; subst h; rfl
theorem InnI.ext {w : World} {base top : Nat} {hs : List HI} {l : List (List Int)} {x : List Int} (h : InnI w base top hs l) (hl : hs.length ≤ l.length) : InnI w base top hs (l ++ [x]) :=
  ⟨fun i k y h1 h2 => h.p_ i k y h1 (by rw [List.getElem?_append_left (by have := (List.getElem?_eq_some_iff.1 h1).1; omega)] at h2; exact h2), h.dp, h.tp⟩
theorem own_pair (w : World) (a b : Int) : Own inV 1 (w.alloc (.cells #[.int .i64 a, .int .i64 b] 3)) w.heap.size 3 (some ⟨w.heap.size, 0, none⟩) 2 2 [a, b] := ⟨rfl, by
    have := World.ownsRow_lit (base := w.heap.size) (e := 3) (size := 1) w #[.int .i64 a, .int .i64 b] 2 (Nat.le_refl _) (by simp [maxLen]) rfl
    simpa [inV] using this⟩
/-- The pairs of a list of rows with their headers. -/
theorem pairs_of {w : World} {base top g : Nat} {hs : List HI} {l : List (List Int)} (h : InnI w base top hs l) (hl : hs.length = l.length) (hg : l.all (fun _ => true) = true) (hok : ∀ x ∈ l, okP2 x) (hne : ∀ (i : Nat) k, hs[i]? = some k → ∀ b, blockOf k.pA = some b → b ≠ g) : ∀ p ∈ hs.zip l, PairIn w g p := fun p hp => by
  obtain ⟨i, hi⟩ := List.mem_iff_getElem?.1 hp
  rw [List.getElem?_zip_eq_some] at hi
  exact ⟨(h.p_ i _ _ hi.1 hi.2).rd inV_len, hok _ (List.mem_of_getElem? hi.2), hne i _ hi.1⟩
def Apart2 (p q : PP) : Prop := (blockOf p.1.pA = none ∨ blockOf p.1.pA ≠ blockOf q.1.pA) ∧ (blockOf q.1.pA = none ∨ blockOf q.1.pA ≠ blockOf p.1.pA)
theorem apart_symm {p q : PP} (h : Apart2 p q) : Apart2 q p := ⟨h.2, h.1⟩
theorem apart_of {w : World} {base top : Nat} {hs : List HI} {l : List (List Int)} (h : InnI w base top hs l) : (hs.zip l).Pairwise Apart2 := by
  rw [List.pairwise_iff_getElem]
  intro i j hi hj hij
  have h1 : hs[i]? = some (hs.zip l)[i].1 := ((List.getElem?_zip_eq_some).1 (List.getElem?_eq_getElem hi)).1
  have h2 : hs[j]? = some (hs.zip l)[j].1 := ((List.getElem?_zip_eq_some).1 (List.getElem?_eq_getElem hj)).1
  exact ⟨h.dp i j _ _ (by omega) h1 h2, h.dp j i _ _ (by omega) h2 h1⟩
theorem inn_of {w : World} {base top : Nat} {C : List PP} (h1 : ∀ p ∈ C, Own inV 1 w base 3 p.1.pA p.1.pn p.1.pc p.2) (h2 : C.Pairwise Apart2) (h3 : ∀ p ∈ C, ∀ k, blockOf p.1.pA = some k → k < top) : InnI w base top (C.map (·.1)) (C.map (·.2)) := by
  have get : ∀ {i : Nat} {h : HI}, (C.map (·.1))[i]? = some h → ∃ p, C[i]? = some p ∧ p.1 = h := fun {i h} hh => by
    rw [List.getElem?_map] at hh
    obtain ⟨p, hp, e⟩ := Option.map_eq_some_iff.1 hh
    exact ⟨p, hp, e⟩
  refine ⟨fun i h x hh hx => ?_, fun i j h k hij hh hk => ?_, fun i h hh k hk => ?_⟩
  · obtain ⟨p, hp, rfl⟩ := get hh
    rw [List.getElem?_map, hp] at hx
    injection hx with hx
    subst hx
    exact h1 p (List.mem_of_getElem? hp)
  · obtain ⟨p, hp, rfl⟩ := get hh
    obtain ⟨q, hq, rfl⟩ := get hk
    obtain ⟨hi, ei⟩ := List.getElem?_eq_some_iff.1 hp
    obtain ⟨hj, ej⟩ := List.getElem?_eq_some_iff.1 hq
    rcases Nat.lt_or_ge i j with hlt | hge
    · have := List.pairwise_iff_getElem.1 h2 i j hi hj hlt
      rw [ei, ej] at this
      exact this.1
    · have := List.pairwise_iff_getElem.1 h2 j i hj hi (by omega)
      rw [ei, ej] at this
      exact this.2
  · obtain ⟨p, hp, rfl⟩ := get hh
    exact h3 p (List.mem_of_getElem? hp) k hk
def movR (l : List TS) : List (List Int) := if asked l then movL l else []
theorem movR_yes {l : List TS} (h : asked l = true) : movR l = movL l := by simp [movR, h]
theorem movR_no {l : List TS} (h : asked l = false) : movR l = [] := by simp [movR, h]
theorem movL_len (l : List TS) : (movL l).length ≤ 400 := movTo2_len l 20
theorem movR_len (l : List TS) : (movR l).length ≤ 400 := by
  unfold movR; split
  · exact movL_len l
  · simp
theorem mov_two {l : List TS} {x : List Int} (h : x ∈ movR l) : x.length = 2 := by
  unfold movR at h
  split at h
  · obtain ⟨s, t, _, _, _, _, rfl⟩ := movTo2_mem.1 h; rfl
  · cases h
theorem movR_tot (l : List TS) : totI (movR l) ≤ 800 := by
  have : ∀ m : List (List Int), (∀ x ∈ m, x.length = 2) → totI m = 2 * m.length := fun m hm => by
    induction m with
    | nil => rfl
    | cons x m ih =>
      have h1 := ih fun y hy => hm y (List.mem_cons_of_mem _ hy)
      have h2 := hm x List.mem_cons_self
      have h3 : totI (x :: m) = x.length + totI m := rfl
      rw [h3, h1, h2, List.length_cons]; omega
  rw [this _ fun x hx => mov_two hx]
  have := movR_len l
  omega

theorem sortAll_any (A : Option Addr) (n c base : Nat) (ps : List PP) (w : World) (ho : Own hIV 1 w base 37 A n c (ps.map (·.1))) (hp : ∀ g, blockOf A = some g → ∀ p ∈ ps, PairIn w g p) (hn : n ≤ 1048576) :
    Calls Try.prog 32 #[.slice A n c, .func (.func 33) #[] #[]] w fun e w' => e = .returned (.tuple #[]) ∧ ∃ qs : List PP, qs.Perm ps ∧ (qs.map keyQ).Pairwise (· ≤ ·) ∧ Own hIV 1 w' base 37 A n c (qs.map (·.1)) ∧ w.grownBy w' (blockOf A) := by
  by_cases h0 : 0 < n
  · obtain ⟨g, rfl⟩ := ho.form h0
    exact sortPairs_any g n c base ps w ho (hp g rfl) h0 (by omega)
  · obtain rfl : n = 0 := by omega
    have hps : ps = [] := List.eq_nil_of_length_eq_zero (by have := ho.len; rwa [List.length_map] at this)
    subst hps
    have hcon := AnyF.slices_SortFunc_none { Try.laysSort with } A c (.func (.func 33) #[] #[]) w
    change Calls Try.prog 32 _ _ _ at hcon
    refine hcon.mono ?_
    rintro e w' ⟨rfl, rfl⟩
    exact ⟨rfl, [], List.Perm.refl _, by simp, ho, World.grownBy.refl _ _⟩
theorem compactAll_any (A : Option Addr) (n c base : Nat) (ds : List PP) (w : World) (ho : Own hIV 1 w base 37 A n c (ds.map (·.1))) (hp : ∀ g, blockOf A = some g → ∀ p ∈ ds, PairIn w g p) (hn : n ≤ 1048576) :
    Calls Try.prog 34 #[.slice A n c, .func (.func 35) #[] #[]] w fun e w' => (∃ k, e = .returned (.slice A k c) ∧ Own hIV 1 w' base 37 A k c ((cmpTo keyQ ds n).map (·.1))) ∧ w.grownBy w' (blockOf A) := by
  by_cases h0 : 0 < n
  · obtain ⟨g, rfl⟩ := ho.form h0
    exact compactPairs_any g n c base ds w ho (hp g rfl) hn
  · obtain rfl : n = 0 := by omega
    have HO := Lib.hid ho
    have hds : ds = [] := List.eq_nil_of_length_eq_zero (by have := ho.len; rwa [List.length_map] at this)
    subst hds
    clear ho hp
    go_enter Try.func34, Try.ntmps34
    go_wp2
    go_ret
    exact ⟨⟨0, rfl, HO.out⟩, World.grownBy.refl _ _⟩

/-! ### the program's side -/
set_option maxRecDepth 100000 in
set_option maxHeartbeats 4000000 in
theorem implMoved_any (A : Option Addr) (n c : Nat) (l : List TS) (w : World) (ha : Rd tsV 2 w A n c l) :
    Calls Try.prog 8 #[.slice A n c] w fun e w' => (∃ B q d hs, e = .returned (.tuple #[.slice B q d, .bool (asked l)]) ∧ OwnI w' w.heap.size w'.heap.size B q d hs (movR l)) ∧ Below w.heap.size w w' := by
  cases h1 : asked l
  · have E1 := Lib.hid (movR_no h1)
    go_enter Try.func8, Try.ntmps8
    go_wp2_with fail
    refine (areOrderly_any _ _ _ _ _ ha).mono ?_
    rintro e w3 ⟨rfl, b3⟩
    go_wp2
    go_ret2
    exact ⟨⟨_, _, _, [], by first | exact rfl | (rw [h1]), by rw [E1.out]; exact OwnI.nil _ _ _⟩, b3⟩
  have E1 := Lib.hid (movR_yes h1)
  have hn : n ≤ 24 := by rw [← ha.len]; exact asked_len h1
  have HL := Lib.hid ha.len
  have hnc := ha.cap
  obtain ⟨l0, lii, lz0, lz1, lz2⟩ := info_parts Try.infoSl
  have H1 := Lib.hid h1
  clear h1
  go_enter Try.func8, Try.ntmps8
  go_wp2_with fail
  refine (areOrderly_any _ _ _ _ _ ha).mono ?_
  rintro e w3 ⟨rfl, b3⟩
  rw [H1.out]
  have oO : Own hIV 1 (w3.alloc (.cells #[] 37)) w.heap.size 37 (some ⟨w3.heap.size, 0, none⟩) 0 0 [] := (Own.empty hIV 1 w3 37).base_le b3.size
  have tO := below_trans b3 (below_alloc (w := w3) (.cells #[] 37))
  have hn1 : (n : Int) + 1 ≤ 25 := by omega
  go_wp2
  go_loopw [4, 18] (fun v kv wr => ∃ k : Nat, k ≤ n + 1 ∧ kv = .int .i64 k ∧ (∃ B q d hs, v = .slice B q d ∧ q ≤ 400 * k ∧ Own hIV 1 wr w.heap.size 37 B q d hs ∧ (rawTo l k).length = q ∧ InnI wr w.heap.size wr.heap.size hs (rawTo l k)) ∧ Below w.heap.size w wr) (fun _ kv _ => n + 1 - (intOf kv).toNat)
  case atStart => exact ⟨0, Nat.zero_le _, rfl, ⟨_, 0, _, [], rfl, Nat.le_refl _, oO, rfl, InnI.nil _ _ _ _⟩, tO⟩
  case round =>
    clear oO tO
    obtain ⟨k, hk, rfl, ⟨B, q, d, hs, rfl, hq, ho, hql, hI⟩, hbw⟩ := hrel
    have HO := Lib.hid ho
    have HQ := Lib.hid hql
    have HI := Lib.hid hI
    clear ho hql hI
    by_cases hlt : k < n + 1
    · have hlt' : (k : Int) < (n : Int) + 1 := by omega
      have hkc : (k : Int) ≤ (c : Int) := by omega
      have hk0 : (0 : Int) ≤ (k : Int) := by omega
      have RT := Lib.hid ((ha.below hbw).take' (k := k) (by omega))
      go_wp2_with fail
      refine (openAfter_any _ _ _ _ _ RT.out (by omega)).mono ?_
      rintro e w4 ⟨⟨B2, q2, d2, rfl, ox⟩, b4⟩
      have XN : Hid ((openL (l.take k)).length = q2) := Lib.hid ox.len
      have X20 := Lib.hid (openL_20 (l.take k))
      have R0 := Lib.hid (rawTo_succ l k)
      have P4 := Lib.hid (fun i (hi : i ≤ (openL (l.take k)).length) => pairs_400 (l.take k) hi)
      generalize openL (l.take k) = xs at *
      have hq2 : q2 ≤ 20 := by rw [← XN.out]; exact X20.out
      have OX := Lib.hid ox
      have O4 := Lib.hid (HO.out.below b4)
      have I4 := Lib.hid ((HI.out.below b4).top_le b4.size)
      have t4 := below_trans hbw b4
      have hs4 := hbw.size
      clear ox HO HI RT
      go_wp2
      obtain ⟨wo, hwo⟩ : ∃ wo : World, wo = wr := ⟨_, rfl⟩
      subst hwo
      go_loopw [4, 27] (fun v iv wr => ∃ i : Nat, i ≤ q2 ∧ iv = .int .i64 i ∧ (∃ B q d hs, v = .slice B q d ∧ q ≤ 400 * k + 400 ∧ Own hIV 1 wr w.heap.size 37 B q d hs ∧ (rawTo l k ++ pairsTo xs i).length = q ∧ InnI wr w.heap.size wr.heap.size hs (rawTo l k ++ pairsTo xs i)) ∧ Below w.heap.size w wr ∧ Own inV 1 wr wo.heap.size 3 B2 q2 d2 xs) (fun _ iv _ => q2 - (intOf iv).toNat)
      case atStart => exact ⟨0, Nat.zero_le _, rfl, ⟨B, q, d, hs, rfl, by omega, O4.out, by rw [show pairsTo xs 0 = [] from rfl, List.append_nil]; exact HQ.out, by rw [show pairsTo xs 0 = [] from rfl, List.append_nil]; exact I4.out⟩, t4, OX.out⟩
      case round =>
        clear O4 I4 t4 OX HQ hq hbw
        obtain ⟨i, hi, rfl, ⟨B, q, d, hs, rfl, hq, ho, hql, hI⟩, hbw, ox⟩ := hrel
        have HO := Lib.hid ho
        have HQ := Lib.hid hql
        have HI := Lib.hid hI
        have OX := Lib.hid ox
        clear ho hql hI
        by_cases hiq : i < q2
        · obtain ⟨b2, o2, a, rfl, hxa, c2⟩ := (ox.rd inV_len).in hiq
          have XA := Lib.hid hxa
          have hcap2 := (ox.rd inV_len).cap
          have hi0 : (0 : Int) ≤ (i : Int) := by omega
          have hi1 : (0 : Int) ≤ (i : Int) + 1 := by omega
          have hi2 : (i : Int) + 1 ≤ (d2 : Int) := by omega
          have hi3 : (i : Int) + 1 ≤ (q2 : Int) := by omega
          have hi4 : (i : Int) < (q2 : Int) := by omega
          have LB : Hid (∀ j, (rawTo l k ++ (pairsTo xs i ++ pairsAt xs i j)).length ≤ 400 * k + 400 + j) := fun j => by
            have h1 := rawTo_len l k
            have h2 := P4.out i (by rw [XN.out]; omega)
            have h3 := pairsAt_len xs i j
            rw [List.length_append, List.length_append]; omega
          have NB : Hid ((rawTo l k ++ pairsTo xs (i + 1)).length ≤ 400 * k + 400) := by
            have h1 := rawTo_len l k
            have h2 := P4.out (i + 1) (by rw [XN.out]; omega)
            show _ ≤ _
            rw [List.length_append]; omega
          have NX := Lib.hid (pairsTo_succ xs i)
          clear hxa ox
          by_cases hlast : i + 1 < q2
          · have hne : ¬ d2 = i + 1 := by omega
            have DR := Lib.hid ((OX.out.rd inV_len).dropB (k := i + 1) (by omega))
            have hql2 : q2 - (i + 1) ≤ 20 := by omega
            obtain ⟨ql, hqle⟩ : ∃ ql, ql = q2 - (i + 1) := ⟨_, rfl⟩
            have QL := Lib.hid hqle.symm
            go_wp2
            obtain ⟨wi, hwi⟩ : ∃ wi : World, wi = wr := ⟨_, rfl⟩
            subst hwi
            go_loopw [4, 37] (fun v jv wr => ∃ j : Nat, j ≤ q2 - (i + 1) ∧ jv = .int .i64 j ∧ (∃ B q d hs, v = .slice B q d ∧ q ≤ 400 * k + 400 + j ∧ Own hIV 1 wr w.heap.size 37 B q d hs ∧ (rawTo l k ++ (pairsTo xs i ++ pairsAt xs i j)).length = q ∧ InnI wr w.heap.size wr.heap.size hs (rawTo l k ++ (pairsTo xs i ++ pairsAt xs i j))) ∧ Below w.heap.size w wr ∧ Own inV 1 wr wo.heap.size 3 (some ⟨b2, o2, none⟩) q2 d2 xs) (fun _ jv _ => q2 - (i + 1) - (intOf jv).toNat)
            case atStart => exact ⟨0, Nat.zero_le _, rfl, ⟨B, q, d, hs, rfl, by omega, HO.out, by rw [show pairsAt xs i 0 = [] from rfl, List.append_nil]; exact HQ.out, by rw [show pairsAt xs i 0 = [] from rfl, List.append_nil]; exact HI.out⟩, hbw, OX.out⟩
            case round =>
              clear HO HQ HI OX hbw DR hq c2 hqle QL
              obtain ⟨j, hj, rfl, ⟨B, q, d, hs, rfl, hq, ho, hql, hI⟩, hbw, ox⟩ := hrel
              have HO := Lib.hid ho
              have HQ := Lib.hid hql
              have HI := Lib.hid hI
              have OX := Lib.hid ox
              clear ho hql hI
              by_cases hjq : j < q2 - (i + 1)
              · obtain ⟨b3, o3, b, hAe, hxb, c3⟩ := ((ox.rd inV_len).dropB (k := i + 1) (by omega)).in hjq
                injection hAe with hAe
                injection hAe with u1 u2
                rw [Nat.mul_one] at u2
                subst u1 u2
                have EX := Lib.hid (pairsAt_succ (xs := xs) (i := i) (j := j) hxb XA.out)
                have hj0 : (0 : Int) ≤ (j : Int) := by omega
                have hj1 : (j : Int) < ((q2 - (i + 1) : Nat) : Int) := by omega
                clear hxb ox
                have OW2 := Lib.hid (own_pair wr a b)
                have OB := Lib.hid (HO.out.below (below_alloc (w := wr) (.cells #[.int .i64 a, .int .i64 b] 3)))
                have hl : hs.length = q := HO.out.len
                have tb := below_trans hbw (below_alloc (w := wr) (.cells #[.int .i64 a, .int .i64 b] 3))
                have IB := Lib.hid ((HI.out.ext (x := [a, b]) (by rw [hl, HQ.out]; exact Nat.le_refl _)).snoc (h := ⟨some ⟨wr.heap.size, 0, none⟩, 2, 2⟩) (top' := (wr.alloc (.cells #[.int .i64 a, .int .i64 b] 3)).heap.size) hl (by rw [List.getElem?_append_right (by rw [HQ.out]; exact Nat.le_refl _), HQ.out, Nat.sub_self]; rfl) (below_alloc _) (by simp) OW2.out (hbw).size (Nat.le_refl _) (blk_lt OW2.out))
                clear hl
                go_wp2_with (at_builtin; refine wpList_push rfl _ _ _ rfl w.heap.size 37 l0 (.slice none 0 0) 1 24 Try.underlying24 lii lz0 lz1 lz2 rfl (by omega) hIV hIV_len one_hi B q d _ rfl OB.out ⟨some ⟨wr.heap.size, 0, none⟩, 2, 2⟩ _ rfl _ rfl (by first | rfl | simp) (by simp only [maxLen]; omega) (by omega) tb.size ?_; intro B3 d3 w3 ho3 hg3)
                have O3 := Lib.hid ho3
                have I3 := Lib.hid ((IB.out.hdw OB.out hg3).top_le hg3.size)
                have T3 := Lib.hid (below_push tb OB.out hg3 (Nat.le_refl _))
                have NB2 := LB.out (j + 1)
                rw [EX.out] at NB2
                have X3 := Lib.hid ((OX.out.below (below_alloc (w := wr) (.cells #[.int .i64 a, .int .i64 b] 3))).grown hg3 ((OX.out.below (below_alloc (w := wr) (.cells #[.int .i64 a, .int .i64 b] 3))).ne_block OB.out (by decide)))
                clear ho3
                go_roundw
                case rel => exact ⟨j + 1, by omega, by go_num, ⟨B3, q + 1, d3, hs ++ [⟨some ⟨wr.heap.size, 0, none⟩, 2, 2⟩], rfl, by omega, O3.out, by rw [EX.out, ← List.append_assoc (pairsTo xs i), ← List.append_assoc (rawTo l k), List.length_append, HQ.out]; rfl, by rw [EX.out, ← List.append_assoc (pairsTo xs i), ← List.append_assoc (rawTo l k)]; exact I3.out⟩, T3.out, X3.out⟩
                case measure => first | (simp [intOf]; done) | (simp [intOf]; omega)
              · obtain rfl : j = q2 - (i + 1) := by omega
                have PA := Lib.hid (pairsAt_all (xs := xs) (i := i) (j := q2 - (i + 1)) (by rw [List.length_drop, XN.out]; exact Nat.le_refl _))
                clear ox
                go_wp2
                go_roundw
                case rel => exact ⟨i + 1, by omega, by go_num, ⟨B, q, d, hs, rfl, by have h9 := NB.out; rw [NX.out, ← PA.out, HQ.out] at h9; exact h9, HO.out, by rw [NX.out, ← PA.out]; exact HQ.out, by rw [NX.out, ← PA.out]; exact HI.out⟩, hbw, OX.out⟩
                case measure => first | (simp [intOf]; done) | (simp [intOf]; omega)
          · have hq1 : q2 = i + 1 := by omega
            have PA : Hid (pairsOf xs i = []) := by
              show _ = _
              unfold pairsOf
              rw [List.drop_eq_nil_iff.2 (by rw [XN.out]; omega)]
              rfl
            have hqq : ¬ (0 : Int) < ((q2 - (i + 1) : Nat) : Int) := by omega
            have hq0 : q2 - (i + 1) = 0 := by omega
            have NXX : Hid (pairsTo xs (i + 1) = pairsTo xs i) := by show _ = _; rw [NX.out, PA.out, List.append_nil]
            have HQ1 := Lib.hid hq1
            clear hq1
            by_cases hcd : d2 = i + 1
            · subst hcd
              go_wp2
              refine wp_loop_rounds 1 ?_
              rw [rounds_succ]
              go_wp2
              go_roundw
              case rel => first | exact ⟨i + 1, by have := HQ1.out; omega, by go_num, ⟨B, q, d, hs, rfl, by omega, HO.out, by rw [NXX.out]; exact HQ.out, by rw [NXX.out]; exact HI.out⟩, hbw, OX.out⟩ | ((repeat apply Exists.intro); exact ⟨⟨i + 1, by have := HQ1.out; omega, by go_num, ⟨B, q, d, hs, rfl, by omega, HO.out, by rw [NXX.out]; exact HQ.out, by rw [NXX.out]; exact HI.out⟩, hbw, OX.out⟩, rfl⟩)
              case measure => have := HQ1.out; first | (simp [intOf]; done) | (simp [intOf]; omega)
            · go_wp2
              refine wp_loop_rounds 1 ?_
              rw [rounds_succ]
              go_wp2
              go_roundw
              case rel => first | exact ⟨i + 1, by have := HQ1.out; omega, by go_num, ⟨B, q, d, hs, rfl, by omega, HO.out, by rw [NXX.out]; exact HQ.out, by rw [NXX.out]; exact HI.out⟩, hbw, OX.out⟩ | ((repeat apply Exists.intro); exact ⟨⟨i + 1, by have := HQ1.out; omega, by go_num, ⟨B, q, d, hs, rfl, by omega, HO.out, by rw [NXX.out]; exact HQ.out, by rw [NXX.out]; exact HI.out⟩, hbw, OX.out⟩, rfl⟩)
              case measure => have := HQ1.out; first | (simp [intOf]; done) | (simp [intOf]; omega)
        · obtain rfl : i = q2 := by omega
          clear ox
          go_wp2
          go_roundw
          case rel => exact ⟨k + 1, by omega, by go_num, ⟨B, q, d, hs, rfl, by omega, HO.out, by rw [R0.out, XN.out]; exact HQ.out, by rw [R0.out, XN.out]; exact HI.out⟩, hbw⟩
          case measure => first | (simp [intOf]; done) | (simp [intOf]; omega)
    · obtain rfl : k = n + 1 := by omega
      have hlt' : ¬ ((n + 1 : Nat) : Int) < (n : Int) + 1 := by omega
      have eR : rawTo l (n + 1) = rawL l := by unfold rawL; rw [HL.out]
      have HQN : Hid ((rawL l).length = q) := by show _ = _; rw [← eR]; exact HQ.out
      have HIN : Hid (InnI wr w.heap.size wr.heap.size hs (rawL l)) := by show InnI _ _ _ _ _; rw [← eR]; exact HI.out
      clear eR
      have hl : hs.length = q := HO.out.len
      have hzf : (hs.zip (rawL l)).map (·.1) = hs := List.map_fst_zip (by rw [hl]; exact Nat.le_of_eq HQN.out.symm)
      have hzs : (hs.zip (rawL l)).map (·.2) = rawL l := List.map_snd_zip (by rw [hl]; exact Nat.le_of_eq HQN.out)
      have HZS := Lib.hid hzs
      have AP := Lib.hid (apart_of HIN.out)
      have OZ : Hid (Own hIV 1 wr w.heap.size 37 B q d ((hs.zip (rawL l)).map (·.1))) := by show Own _ _ _ _ _ _ _ _ _; rw [hzf]; exact HO.out
      have PZ : Hid (∀ p ∈ hs.zip (rawL l), Own inV 1 wr w.heap.size 3 p.1.pA p.1.pn p.1.pc p.2 ∧ okP2 p.2) := fun p hp => by
        obtain ⟨i, hi⟩ := List.mem_iff_getElem?.1 hp
        rw [List.getElem?_zip_eq_some] at hi
        exact ⟨HIN.out.p_ i _ _ hi.1 hi.2, raw_ok (List.mem_of_getElem? hi.2)⟩
      have hq5 : q ≤ 1048576 := by omega
      generalize hs.zip (rawL l) = ps at *
      clear hzf hzs hl HO HI HQ
      go_wp2_with fail
      refine (sortAll_any B q d w.heap.size ps _ OZ.out (fun g hg p hp => ⟨(PZ.out p hp).1.rd inV_len, (PZ.out p hp).2, fun k hk e => by
        rcases (PZ.out p hp).1.ne_block OZ.out (by decide) with h9 | h9
        · rw [h9] at hk; cases hk
        · exact h9 (by rw [hk, hg, e])⟩) hq5).mono ?_
      rintro e w5 ⟨rfl, qs, hperm, hsort, oq, hg5⟩
      have OQ := Lib.hid oq
      have PQ : Hid (∀ p ∈ qs, Own inV 1 w5 w.heap.size 3 p.1.pA p.1.pn p.1.pc p.2 ∧ okP2 p.2) := fun p hp => by
        have hp2 := hperm.mem_iff.1 hp
        exact ⟨(PZ.out p hp2).1.grown hg5 ((PZ.out p hp2).1.ne_block OZ.out (by decide)), (PZ.out p hp2).2⟩
      have AQ : Hid (qs.Pairwise Apart2) := hperm.symm.pairwise AP.out (fun h => apart_symm h)
      have MQ : Hid (∀ z, z ∈ qs.map keyQ ↔ z ∈ (rawL l).map keyP) := fun z => by
        rw [(hperm.map keyQ).mem_iff, ← HZS.out, List.map_map]
        exact Iff.rfl
      have SQ := Lib.hid hsort
      have t5 := below_push hbw OZ.out hg5 (Nat.le_refl _)
      clear hperm hsort oq
      go_wp2_with fail
      refine (compactAll_any B q d w.heap.size qs _ OQ.out (fun g hg p hp => ⟨(PQ.out p hp).1.rd inV_len, (PQ.out p hp).2, fun k hk e => by
        rcases (PQ.out p hp).1.ne_block OQ.out (by decide) with h9 | h9
        · rw [h9] at hk; cases hk
        · exact h9 (by rw [hk, hg, e])⟩) hq5).mono ?_
      rintro e w6 ⟨⟨kf, rfl, oc⟩, hg6⟩
      have hlq : qs.length = q := by have := OQ.out.len; rwa [List.length_map] at this
      obtain ⟨s1, s2, -⟩ := cmpTo_spec SQ.out q (by omega)
      have SUB := Lib.hid ((cmpTo_sub keyQ qs q).trans (List.take_sublist q qs))
      have hC : ∀ p ∈ cmpTo keyQ qs q, p ∈ qs := fun p hp => SUB.out.subset hp
      have FIN : Hid ((cmpTo keyQ qs q).map (·.2) = movL l) := mov_of (by rw [List.map_map]; exact s1) (fun z => by
        rw [List.map_map]
        refine (s2 z).trans ?_
        rw [List.take_of_length_le (by omega)]
        exact MQ.out z) (fun x hx => by
        obtain ⟨p, hp, rfl⟩ := List.mem_map.1 hx
        exact (PQ.out p (hC p hp)).2)
      have t6 := below_push t5 OQ.out hg6 (Nat.le_refl _)
      have IN6 := Lib.hid (inn_of (top := w6.heap.size) (C := cmpTo keyQ qs q) (fun p hp => (PQ.out p (hC p hp)).1.grown hg6 ((PQ.out p (hC p hp)).1.ne_block OQ.out (by decide))) (AQ.out.sublist SUB.out) (fun p hp k hk => (((PQ.out p (hC p hp)).1.grown hg6 ((PQ.out p (hC p hp)).1.ne_block OQ.out (by decide))).lt hk).2))
      have OC := Lib.hid oc
      clear s1 s2 hC oc
      go_wp2
      go_ret2
      refine ⟨⟨B, kf, d, (cmpTo keyQ qs q).map (·.1), by first | exact rfl | rw [H1.out], ?_⟩, t6⟩
      rw [E1.out, ← FIN.out]
      exact ⟨OC.out, by have := OC.out.len; rw [List.length_map] at this ⊢; exact this, IN6.out, fun k hk => (OC.out.lt hk).2⟩

/-! ### the reference's side -/
set_option maxRecDepth 100000 in
set_option maxHeartbeats 4000000 in
theorem specMoved_any (A : Option Addr) (n c : Nat) (l : List TS) (w : World) (ha : Rd tsV 2 w A n c l) :
    Calls Try.prog 6 #[.slice A n c] w fun e w' => (∃ B q d hs, e = .returned (.tuple #[.slice B q d, .bool (asked l)]) ∧ OwnI w' w.heap.size w'.heap.size B q d hs (movR l)) ∧ Below w.heap.size w w' := by
  have W0 : Own hIV 1 (w.alloc (.cells #[] 37)) w.heap.size 37 (some ⟨w.heap.size, 0, none⟩) 0 0 [] := Own.empty hIV 1 w 37
  have b0 := below_alloc (w := w) (.cells #[] 37)
  cases h1 : asked l
  · have E1 := Lib.hid (movR_no h1)
    have H1 := Lib.hid h1
    clear h1
    go_enter Try.func6, Try.ntmps6
    go_wp2_with fail
    refine (l23Asked_any _ _ _ _ _ (ha.below b0)).mono ?_
    rintro e w3 ⟨rfl, rfl⟩
    rw [H1.out]
    go_wp2
    go_ret2
    exact ⟨⟨_, _, _, [], by first | exact rfl | rw [H1.out], by rw [E1.out]; exact ⟨W0, rfl, InnI.nil _ _ _ _, fun k hk => (W0.lt hk).2⟩⟩, b0⟩
  have E1 := Lib.hid (movR_yes h1)
  have hall := Lib.hid (asked_all h1)
  have hn : n ≤ 24 := by rw [← ha.len]; exact asked_len h1
  have HL := Lib.hid ha.len
  have hnc := ha.cap
  obtain ⟨l0, lii, lz0, lz1, lz2⟩ := info_parts Try.infoSl
  have H1 := Lib.hid h1
  clear h1
  go_enter Try.func6, Try.ntmps6
  go_wp2_with fail
  refine (l23Asked_any _ _ _ _ _ (ha.below b0)).mono ?_
  rintro e w3 ⟨rfl, rfl⟩
  rw [H1.out]
  go_wp2
  go_loopw [4, 5] (fun v av wr => ∃ s : Nat, s ≤ 20 ∧ av = .int .i64 ((s : Int) + 1) ∧ (∃ B q d hs, v = .slice B q d ∧ q ≤ 20 * s ∧ Own hIV 1 wr w.heap.size 37 B q d hs ∧ (movTo2 l s).length = q ∧ InnI wr w.heap.size wr.heap.size hs (movTo2 l s)) ∧ Below w.heap.size w wr) (fun _ av _ => 21 - (intOf av).toNat)
  case atStart => exact ⟨0, by omega, rfl, ⟨_, 0, _, [], rfl, Nat.le_refl _, W0, rfl, InnI.nil _ _ _ _⟩, b0⟩
  case round =>
    clear W0 b0
    obtain ⟨s, hs20, rfl, ⟨B, q, d, hs, rfl, hq, ho, hql, hI⟩, hbw⟩ := hrel
    have HO := Lib.hid ho
    have HQ := Lib.hid hql
    have HI := Lib.hid hI
    clear ho hql hI
    by_cases hlt : s < 20
    · have hle20 : (s : Int) + 1 ≤ 20 := by omega
      have LBA : Hid (∀ t, (movTo2 l s ++ rowTo l s t).length ≤ 20 * s + t) := fun t => by
        have h1 := movTo2_len l s
        have h2 := rowTo_len l s t
        rw [List.length_append]; omega
      go_wp2
      obtain ⟨wo, hwo⟩ : ∃ wo : World, wo = wr := ⟨_, rfl⟩
      subst hwo
      go_loopw [4, 6] (fun v bv wr => ∃ t : Nat, s + 1 ≤ t ∧ t ≤ 20 ∧ bv = .int .i64 ((t : Int) + 1) ∧ (∃ B q d hs, v = .slice B q d ∧ q ≤ 20 * s + t ∧ Own hIV 1 wr w.heap.size 37 B q d hs ∧ (movTo2 l s ++ rowTo l s t).length = q ∧ InnI wr w.heap.size wr.heap.size hs (movTo2 l s ++ rowTo l s t)) ∧ Below w.heap.size w wr) (fun _ bv _ => 21 - (intOf bv).toNat)
      case atStart => exact ⟨s + 1, Nat.le_refl _, by omega, by go_num, ⟨B, q, d, hs, rfl, by omega, HO.out, by rw [rowTo_zero, List.append_nil]; exact HQ.out, by rw [rowTo_zero, List.append_nil]; exact HI.out⟩, hbw⟩
      case round =>
        clear HO HQ HI hbw hq
        obtain ⟨t, ht1, ht20, rfl, ⟨B, q, d, hs, rfl, hq, ho, hql, hI⟩, hbw⟩ := hrel
        have HO := Lib.hid ho
        have HQ := Lib.hid hql
        have HI := Lib.hid hI
        clear ho hql hI
        by_cases htl : t < 20
        · have htl20 : (t : Int) + 1 ≤ 20 := by omega
          have hs4 := hbw.size
          go_wp2
          obtain ⟨wi, hwi⟩ : ∃ wi : World, wi = wr := ⟨_, rfl⟩
          subst hwi
          go_loopw [7, 8] (fun tv kv wr => ∃ k : Nat, k ≤ n + 1 ∧ kv = .int .i64 k ∧ tv = .bool (togTo l ((s : Int) + 1) ((t : Int) + 1) k) ∧ Below wi.heap.size wi wr) (fun _ kv _ => n + 1 - (intOf kv).toNat)
          case atStart => exact ⟨0, Nat.zero_le _, rfl, rfl, Below.refl _ _⟩
          case round =>
            obtain ⟨k, hk, rfl, rfl, hbi⟩ := hrel
            have tw := below_trans hbw hbi
            by_cases hkn : k < n + 1
            · have hkn' : (k : Int) ≤ (n : Int) := by omega
              have hkc : (k : Int) ≤ (c : Int) := by omega
              have hk0 : (0 : Int) ≤ (k : Int) := by omega
              have RT := Lib.hid ((ha.below tw).take' (k := k) (by omega))
              have TK : Hid ((l.take k).all tsOK = true) := List.all_eq_true.2 (fun x hx => List.all_eq_true.1 hall.out x (List.mem_of_mem_take hx))
              have TS := Lib.hid (togTo_succ l ((s : Int) + 1) ((t : Int) + 1) k)
              go_wp2_with fail
              refine (l23Open_any _ _ _ _ _ RT.out TK.out (by omega)).mono ?_
              rintro e w4 ⟨⟨B2, q2, d2, rfl, ox⟩, b4⟩
              generalize openL (l.take k) = xs at *
              have OX := Lib.hid (ox.rd inV_len)
              have t4 := below_trans hbi b4
              clear ox RT TK
              cases h2 : togTo l ((s : Int) + 1) ((t : Int) + 1) k
              · cases h3 : xs.contains ((s : Int) + 1)
                · have NX : Hid (togTo l ((s : Int) + 1) ((t : Int) + 1) (k + 1) = false) := by show _ = _; rw [TS.out, h2, h3]; rfl
                  have H3 := Lib.hid h3
                  clear h2 h3
                  go_wp2_with fail
                  refine (l1Has_any _ _ _ _ _ _ OX.out).mono ?_
                  rintro e w5 ⟨rfl, rfl⟩
                  rw [H3.out]
                  go_wp2
                  go_roundw
                  case rel => exact ⟨k + 1, by omega, by go_num, by rw [NX.out], t4⟩
                  case measure => first | (simp [intOf]; done) | (simp [intOf]; omega)
                · cases h4 : xs.contains ((t : Int) + 1)
                  all_goals
                    have NX := Lib.hid (TS.out.trans (by rw [h2, h3, h4] : _ = (false || (true && _))))
                    have H3 := Lib.hid h3
                    have H4 := Lib.hid h4
                    clear h2 h3 h4
                    go_wp2_with fail
                    refine (l1Has_any _ _ _ _ _ _ OX.out).mono ?_
                    rintro e w5 ⟨rfl, rfl⟩
                    rw [H3.out]
                    go_wp2_with fail
                    refine (l1Has_any _ _ _ _ _ _ OX.out).mono ?_
                    rintro e w5 ⟨rfl, rfl⟩
                    rw [H4.out]
                    go_wp2
                    go_roundw
                    case rel => exact ⟨k + 1, by omega, by go_num, by rw [NX.out]; rfl, t4⟩
                    case measure => first | (simp [intOf]; done) | (simp [intOf]; omega)
              · have NX : Hid (togTo l ((s : Int) + 1) ((t : Int) + 1) (k + 1) = true) := by show _ = _; rw [TS.out, h2]; rfl
                clear h2
                go_wp2
                go_roundw
                case rel => exact ⟨k + 1, by omega, by go_num, by rw [NX.out], t4⟩
                case measure => first | (simp [intOf]; done) | (simp [intOf]; omega)
            · obtain rfl : k = n + 1 := by omega
              have hkn' : ¬ ((n + 1 : Nat) : Int) ≤ (n : Int) := by omega
              have TG : Hid (togTo l ((s : Int) + 1) ((t : Int) + 1) (n + 1) = togB l ((s : Int) + 1) ((t : Int) + 1)) := by show _ = _; unfold togB; rw [HL.out]
              have HO2 := Lib.hid (HO.out.below hbi)
              have HI2 := Lib.hid ((HI.out.below hbi).top_le hbi.size)
              clear HO HI
              have HO := Lib.hid HO2.out
              have HI := Lib.hid HI2.out
              clear HO2 HI2
              have LB := LBA.out (t + 1)
              cases h2 : togB l ((s : Int) + 1) ((t : Int) + 1)
              · have EX := Lib.hid (rowTo_no (l := l) (a := s) (b := t) h2)
                have TG2 : Hid (togTo l ((s : Int) + 1) ((t : Int) + 1) (n + 1) = false) := TG.out.trans h2
                rw [TG2.out]
                clear h2
                go_wp2
                go_roundw
                case rel => exact ⟨t + 1, by omega, by omega, by go_num, ⟨B, q, d, hs, rfl, by omega, HO.out, by rw [EX.out]; exact HQ.out, by rw [EX.out]; exact HI.out⟩, tw⟩
                case measure => first | (simp [intOf]; done) | (simp [intOf]; omega)
              · have EX := Lib.hid (rowTo_yes (l := l) (a := s) (b := t) (by omega) h2)
                have TG2 : Hid (togTo l ((s : Int) + 1) ((t : Int) + 1) (n + 1) = true) := TG.out.trans h2
                rw [TG2.out]
                clear h2
                have OW2 := Lib.hid (own_pair wr ((s : Int) + 1) ((t : Int) + 1))
                have OB := Lib.hid (HO.out.below (below_alloc (w := wr) (.cells #[.int .i64 ((s : Int) + 1), .int .i64 ((t : Int) + 1)] 3)))
                have hl : hs.length = q := HO.out.len
                have tb := below_trans tw (below_alloc (w := wr) (.cells #[.int .i64 ((s : Int) + 1), .int .i64 ((t : Int) + 1)] 3))
                have IB := Lib.hid ((HI.out.ext (x := [((s : Int) + 1), ((t : Int) + 1)]) (by rw [hl, HQ.out]; exact Nat.le_refl _)).snoc (h := ⟨some ⟨wr.heap.size, 0, none⟩, 2, 2⟩) (top' := (wr.alloc (.cells #[.int .i64 ((s : Int) + 1), .int .i64 ((t : Int) + 1)] 3)).heap.size) hl (by rw [List.getElem?_append_right (by rw [HQ.out]; exact Nat.le_refl _), HQ.out, Nat.sub_self]; rfl) (below_alloc _) (by simp) OW2.out (tw).size (Nat.le_refl _) (blk_lt OW2.out))
                clear hl
                go_wp2_with (at_builtin; refine wpList_push rfl _ _ _ rfl w.heap.size 37 l0 (.slice none 0 0) 1 24 Try.underlying24 lii lz0 lz1 lz2 rfl (by omega) hIV hIV_len one_hi B q d _ rfl OB.out ⟨some ⟨wr.heap.size, 0, none⟩, 2, 2⟩ _ rfl _ rfl (by first | rfl | simp) (by simp only [maxLen]; omega) (by omega) tb.size ?_; intro B3 d3 w3 ho3 hg3)
                have O3 := Lib.hid ho3
                have I3 := Lib.hid ((IB.out.hdw OB.out hg3).top_le hg3.size)
                have T3 := Lib.hid (below_push tb OB.out hg3 (Nat.le_refl _))
                clear ho3
                go_roundw
                case rel => exact ⟨t + 1, by omega, by omega, by go_num, ⟨B3, q + 1, d3, hs ++ [⟨some ⟨wr.heap.size, 0, none⟩, 2, 2⟩], rfl, by omega, O3.out, by rw [EX.out, ← List.append_assoc, List.length_append, HQ.out]; rfl, by rw [EX.out, ← List.append_assoc]; exact I3.out⟩, T3.out⟩
                case measure => first | (simp [intOf]; done) | (simp [intOf]; omega)
        · obtain rfl : t = 20 := by omega
          have LB := LBA.out 20
          go_wp2
          go_roundw
          case rel => exact ⟨s + 1, by omega, by go_num, ⟨B, q, d, hs, rfl, by omega, HO.out, by rw [movTo2_succ]; exact HQ.out, by rw [movTo2_succ]; exact HI.out⟩, hbw⟩
          case measure => first | (simp [intOf]; done) | (simp [intOf]; omega)
    · obtain rfl : s = 20 := by omega
      go_wp2
      go_ret2
      refine ⟨⟨B, q, d, hs, by first | exact rfl | rw [H1.out], ?_⟩, hbw⟩
      rw [E1.out]
      exact ⟨HO.out, HQ.out, HI.out, fun k hk => (HO.out.lt hk).2⟩

end Go.Proofs.Ytmmogpbbehgkiaa
