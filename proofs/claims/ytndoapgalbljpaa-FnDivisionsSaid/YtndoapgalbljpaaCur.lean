/-
  YtndoapgalbljpaaCur: the cursor of the draws: a block of the call's own that holds the bytes, a place and a seed; next, pick, one, by contracts.
-/
import Derived.Test.YtndoapgalbljpaaHelp
import Derived.BigQuiet
import Derived.Deep.QuietTactic
import Derived.IntWalk
import Derived.Laws.BitsLemmas
import Derived.Laws.Bits64
namespace Go.Proofs.Ytndoapgalbljpaa
open Go Go.RowKit Go.Sort
set_option linter.unusedVariables false

def byV (x : Int) : List Value := [.int .u8 x]
theorem byV_len (x : Int) : (byV x).length = 1 := rfl
theorem Rd.by {w : World} {A : Option Addr} {n c : Nat} {l : List Int} (h : Rd byV 1 w A n c l) {i : Nat} (hi : i < n) :
    ∃ b off x, A = some ⟨b, off, none⟩ ∧ l[i]? = some x ∧ w.cell? ⟨b, off + i, none⟩ = some (.int .u8 x) := by
  obtain ⟨b, off, e, hc⟩ := h.at_ (by omega)
  have hl : i < l.length := by have := h.len; omega
  exact ⟨b, off, l[i], e, List.getElem?_eq_getElem hl, by simpa using hc i _ (List.getElem?_eq_getElem hl) 0 _ rfl⟩
/-- Block g is a cursor over the bytes l, read from '.slice A n c', which lies below g. -/
structure CurAt (w : World) (g : Nat) (A : Option Addr) (n c : Nat) (l : List Int) (p s : Int) : Prop where
  blk : w.heap[g]? = some (.cells #[.slice A n c, .int .i64 p, .int .u64 s] 77 (0, 0))
  rd : Rd byV 1 w A n c l
  by_ : ∀ x ∈ l, 0 ≤ x ∧ x ≤ 255
  out : 0 < n → ∀ a, A = some a → a.block < g
  p0 : 0 ≤ p
/-- At most K bytes have been read. -/
def Cur (w : World) (g K : Nat) : Prop := ∃ A n c l p s, CurAt w g A n c l p s ∧ p ≤ (K : Int)
theorem Cur.le {w : World} {g K K' : Nat} (h : Cur w g K) (hk : K ≤ K') : Cur w g K' := by
  obtain ⟨A, n, c, l, p, s, h1, h2⟩ := h
  exact ⟨A, n, c, l, p, s, h1, by omega⟩
theorem heap_lt {w : World} {k : Nat} {o : Obj} (h : w.heap[k]? = some o) : k < w.heap.size := by
  rcases Nat.lt_or_ge k w.heap.size with hlt | hge
  · exact hlt
  · rw [Array.getElem?_eq_none hge] at h; cases h
theorem Cur.lt {w : World} {g K : Nat} (h : Cur w g K) : g < w.heap.size := by
  obtain ⟨A, n, c, l, p, s, h1, _⟩ := h
  exact heap_lt h1.blk
theorem Cur.below {w w' : World} {g K : Nat} (h : Cur w g K) (hb : Below w.heap.size w w') : Cur w' g K := by
  obtain ⟨A, n, c, l, p, s, h1, h2⟩ := h
  exact ⟨A, n, c, l, p, s, ⟨by rw [hb.block g (heap_lt h1.blk)]; exact h1.blk, h1.rd.below hb, h1.by_, h1.out, h1.p0⟩, h2⟩
/-- What has been made since the cursor was, another row's writes leave alone. -/
theorem Cur.grown {w w' : World} {g K : Nat} {row : Option Nat} (h : Cur w g K) (hg : w.grownBy w' row) (hr : ∀ k, row = some k → g < k) : Cur w' g K := by
  obtain ⟨A, n, c, l, p, s, h1, h2⟩ := h
  have hne : ∀ b, b ≤ g → some b ≠ row := fun b hb e => by have := hr b e.symm; omega
  refine ⟨A, n, c, l, p, s, ⟨heap_grown hg h1.blk (hne g (Nat.le_refl _)), ⟨h1.rd.len, h1.rd.cap, h1.rd.max, h1.rd.nil0, fun hn => ?_⟩, h1.by_, h1.out, h1.p0⟩, h2⟩
  obtain ⟨b, off, e, hc⟩ := h1.rd.at_ hn
  refine ⟨b, off, e, fun i x hx j u hu => ?_⟩
  have h3 := hc i x hx j u hu
  have hb : b < g := h1.out hn _ e
  rw [World.cell?_of_block (hg.block b (lt_of_cell h3) (hne b (by omega)))]
  exact h3
theorem Cur.start {w : World} {A : Option Addr} {n c : Nat} {l : List Int} (h : Rd byV 1 w A n c l) (hb : ∀ x ∈ l, 0 ≤ x ∧ x ≤ 255) :
    Cur (w.alloc (.cells #[.slice A n c, .int .i64 0, .int .u64 0] 77)) w.heap.size 0 :=
  ⟨A, n, c, l, 0, 0, ⟨heap_new rfl, h.alloc _, hb, fun hn a ha => by
    obtain ⟨b, off, x, e, _, hc⟩ := h.by hn
    rw [e] at ha
    injection ha with ha
    subst ha
    exact lt_of_cell hc, Int.le_refl _⟩, Int.le_refl _⟩
/-- A list made since the cursor was is kept while the cursor moves. -/
theorem Own.cur {α : Type} {enc : α → List Value} {sz : Nat} {w w' : World} {base : Nat} {e : TypeId} {A : Option Addr} {n c : Nat} {l : List α} {g : Nat} (h : Own enc sz w base e A n c l) (hg : w.grownBy w' (some g)) (hb : g < base) : Own enc sz w' base e A n c l :=
  h.grown hg (by
    cases hA : blockOf A with
    | none => exact .inl rfl
    | some k => exact .inr (fun e => by injection e with e; have := (h.lt hA).1; omega))
/-- Writes to rows made since are no writes to what was there. -/
theorem grown_row {a b c : World} {g : Nat} {row : Option Nat} (h : a.grownBy b (some g)) (k : b.grownBy c row) (hr : ∀ j, row = some j → a.heap.size ≤ j) : a.grownBy c (some g) :=
  ⟨k.os.trans h.os, k.tape.trans h.tape, k.output.trans h.output, Nat.le_trans h.size k.size, fun i hi hne => (k.block i (Nat.lt_of_lt_of_le hi h.size) (fun e => by have := hr i e.symm; omega)).trans (h.block i hi hne)⟩
theorem below_cur {w w' : World} {g B : Nat} (hg : w.grownBy w' (some g)) (hB : B ≤ g) (hs : B ≤ w.heap.size) : Below B w w' := below_of_grown hg hs (fun k hk => by injection hk with hk; omega)

theorem below_drewN (w : World) (k : Nat) : Below w.heap.size w (w.drewN k) := ⟨rfl, rfl, rfl, Nat.le_refl _, fun i _ => rfl⟩
theorem CurAt.drewN {w : World} {g : Nat} {A : Option Addr} {n c : Nat} {l : List Int} {p s : Int} (h : CurAt w g A n c l p s) (k : Nat) : CurAt (w.drewN k) g A n c l p s :=
  ⟨h.blk, h.rd.below (below_drewN w k), h.by_, h.out, h.p0⟩
theorem CurAt.moved {w w' : World} {g : Nat} {A : Option Addr} {n c : Nat} {l : List Int} {p s p' s' : Int} (h : CurAt w g A n c l p s) (hp : 0 ≤ p')
    (hw : w' = (w.setCell ⟨g, 1, none⟩ (.int .i64 p')).setCell ⟨g, 2, none⟩ (.int .u64 s')) : CurAt w' g A n c l p' s' ∧ w.grownBy w' (some g) := by
  subst hw
  have hb := h.blk
  have hgr : w.grownBy ((w.setCell ⟨g, 1, none⟩ (.int .i64 p')).setCell ⟨g, 2, none⟩ (.int .u64 s')) (some g) := by
    refine ⟨rfl, rfl, rfl, by simp, fun i hi hne => ?_⟩
    have hig : i ≠ g := fun e => hne (by rw [e])
    rw [Below.heap_setCell _ _ _ _ hig, Below.heap_setCell _ _ _ _ hig]
  refine ⟨⟨?_, ?_, h.by_, h.out, hp⟩, hgr⟩
  · simp [World.setCell, Array.getElem?_modify, hb]
  · refine ⟨h.rd.len, h.rd.cap, h.rd.max, h.rd.nil0, fun hn => ?_⟩
    obtain ⟨b, off, e, hc⟩ := h.rd.at_ hn
    refine ⟨b, off, e, fun i x hx j u hu => ?_⟩
    have h3 := hc i x hx j u hu
    have hbg : b < g := h.out hn _ e
    rw [World.cell?_of_block (hgr.block b (lt_of_cell h3) (fun e => by injection e with e; omega))]
    exact h3

theorem cur_after {w w' : World} {g K : Nat} {A : Option Addr} {n c : Nat} {l : List Int} {p s s' : Int} (h : CurAt w g A n c l p s) (m m' p' : Nat) (hp : p' ≤ K)
    (hw : w' = (((w.drewN m).setCell ⟨g, 1, none⟩ (.int .i64 (p' : Int))).setCell ⟨g, 2, none⟩ (.int .u64 s')).drewN m') : Cur w' g K ∧ w.grownBy w' (some g) := by
  obtain ⟨m1, m2⟩ := CurAt.moved (w := w.drewN m) (p' := (p' : Int)) (s' := s') (h.drewN m) (by omega) rfl
  subst hw
  exact ⟨⟨_, _, _, _, _, _, m1.drewN m', by omega⟩, grown_trans (grown_trans (grown_of_below (below_drewN w m) _) m2) (grown_of_below (below_drewN _ m') _)⟩

theorem wraps63 (n : Int) (h₀ : 0 ≤ n) (h₁ : n < 2 ^ 63) : IntKind.u64.wrap n = n := by rw [IntKind.wrap_u64]; omega
theorem seed_byte (t : Int) : 0 ≤ wrap64 (bits .and .u64 (IntKind.u64.wrap t / 1099511627776) 255) ∧ wrap64 (bits .and .u64 (IntKind.u64.wrap t / 1099511627776) 255) ≤ 255 := by
  have hw : 0 ≤ IntKind.u64.wrap t / 1099511627776 ∧ IntKind.u64.wrap t / 1099511627776 < 2 ^ 63 := by
    rw [IntKind.wrap_u64]
    omega
  have h := bits_mask .u64 63 (by decide) wraps63 8 (by decide) (IntKind.u64.wrap t / 1099511627776) hw.1 hw.2
  have e : ((2 : Int) ^ 8 - 1) = 255 := by decide
  have e2 : ((2 : Int) ^ 8) = 256 := by decide
  rw [e, e2] at h
  rw [h]
  generalize IntKind.u64.wrap t / 1099511627776 = x
  rw [IntWalk.wrap64_in (x % 256) ⟨by omega, by omega⟩]
  omega

set_option maxRecDepth 100000 in
set_option maxHeartbeats 1000000 in
theorem next_any (g K : Nat) (w : World) (h : Cur w g K) (hK : K ≤ 1000000000) :
    Calls Try.prog 82 #[.pointer (some ⟨g, 0, none⟩)] w fun e w' => (∃ b : Int, e = .returned (.int .i64 b) ∧ 0 ≤ b ∧ b ≤ 255) ∧ Cur w' g (K + 1) ∧ w.grownBy w' (some g) := by
  obtain ⟨A, n, c, l, p, s, hc, hp⟩ := h
  have hn := hc.rd.le
  have hp0 := hc.p0
  have c0 : w.cell? ⟨g, 0, none⟩ = some (.slice A n c) := cell_of_row w g 0 _ _ _ hc.blk
  have c1 : w.cell? ⟨g, 1, none⟩ = some (.int .i64 p) := cell_of_row w g 1 _ _ _ hc.blk
  have c2 : w.cell? ⟨g, 2, none⟩ = some (.int .u64 s) := cell_of_row w g 2 _ _ _ hc.blk
  have f1 : w.frozen? ⟨g, 1, none⟩ = false := by have := hc.blk; simp [World.frozen?, this]
  have f2 : w.frozen? ⟨g, 2, none⟩ = false := by have := hc.blk; simp [World.frozen?, this]
  have HC := Lib.hid hc
  have HP := Lib.hid hp
  obtain ⟨q, rfl⟩ := Int.eq_ofNat_of_zero_le hp0
  by_cases hlt : q < n
  · obtain ⟨b, off, x, rfl, hx, d0⟩ := hc.rd.by hlt
    have hxb := hc.by_ x (List.mem_of_getElem? hx)
    obtain ⟨hx0, hx1⟩ := hxb
    have hq0 : (0 : Int) ≤ (q : Int) := by omega
    have hqn : (q : Int) < (n : Int) := by omega
    clear hc hx
    go_enter Try.func82, Try.ntmps82
    go_wp2_with fail
    go_quiet (fail)
    go_wp2_with fail
    go_quiet (fail)
    go_wp2_with fail
    have hle : decide ((q : Int) + 1 ≤ (n : Int)) = true := by simp; omega
    go_quiet (fail)
    go_wp2
    go_ret
    exact ⟨⟨x, rfl, hx0, hx1⟩, cur_after HC.out _ _ (q + 1) (by have := HP.out; omega) (by first | rfl | simp)⟩
  · clear hc
    go_enter Try.func82, Try.ntmps82
    go_wp2_with fail
    go_quiet (fail)
    go_wp2_with fail
    have hle : decide ((q : Int) + 1 ≤ (n : Int)) = false := by simp; omega
    go_quiet (fail)
    go_wp2
    go_ret
    refine ⟨⟨_, rfl, ?_⟩, cur_after HC.out _ _ (q + 1) (by have := HP.out; omega) (by first | rfl | simp)⟩
    exact seed_byte _


/-- A number from 0 to m - 1. -/
theorem pick_any (g K : Nat) (m : Int) (w : World) (h : Cur w g K) (hK : K ≤ 1000000) (h1 : 1 ≤ m) (hm : m ≤ 65536) :
    Calls Try.prog 57 #[.pointer (some ⟨g, 0, none⟩), .int .i64 m] w fun e w' => (∃ x : Int, e = .returned (.int .i64 x) ∧ 0 ≤ x ∧ x < m) ∧ Cur w' g (K + 2) ∧ w.grownBy w' (some g) := by
  have HC := Lib.hid h
  clear h
  by_cases hm1 : m ≤ 1
  · go_enter Try.func57, Try.ntmps57
    go_wp2
    go_ret
    exact ⟨⟨0, rfl, by omega, by omega⟩, HC.out.le (by omega), World.grownBy.refl _ _⟩
  · by_cases hm2 : m ≤ 200
    · go_enter Try.func57, Try.ntmps57
      go_wp2_with fail
      refine (next_any g K _ HC.out (by omega)).mono ?_
      rintro e w1 ⟨⟨b, rfl, hb0, hb1⟩, hc1, hg1⟩
      have H1 := Lib.hid hc1
      clear hc1
      go_wp2
      go_ret
      exact ⟨⟨_, rfl, Int.emod_nonneg _ (by omega), Int.emod_lt_of_pos _ (by omega)⟩, H1.out.le (by omega), hg1⟩
    · go_enter Try.func57, Try.ntmps57
      go_wp2_with fail
      refine (next_any g K _ HC.out (by omega)).mono ?_
      rintro e w1 ⟨⟨b, rfl, hb0, hb1⟩, hc1, hg1⟩
      have H1 := Lib.hid hc1
      clear hc1
      go_wp2_with fail
      refine (next_any g (K + 1) _ H1.out (by omega)).mono ?_
      rintro e w2 ⟨⟨b', rfl, hb0', hb1'⟩, hc2, hg2⟩
      have H2 := Lib.hid hc2
      clear hc2
      go_wp2
      go_ret
      exact ⟨⟨_, rfl, Int.emod_nonneg _ (by omega), Int.emod_lt_of_pos _ (by omega)⟩, H2.out.le (by omega), grown_trans hg1 hg2⟩
theorem one_any (g K : Nat) (m : Int) (w : World) (h : Cur w g K) (hK : K ≤ 1000000) (h1 : 1 ≤ m) (hm : m ≤ 65536) :
    Calls Try.prog 81 #[.pointer (some ⟨g, 0, none⟩), .int .i64 m] w fun e w' => (∃ x : Bool, e = .returned (.bool x)) ∧ Cur w' g (K + 2) ∧ w.grownBy w' (some g) := by
  have HC := Lib.hid h
  clear h
  go_enter Try.func81, Try.ntmps81
  go_wp2_with fail
  refine (pick_any g K m _ HC.out hK h1 hm).mono ?_
  rintro e w1 ⟨⟨b, rfl, hb0, hb1⟩, hc1, hg1⟩
  have H1 := Lib.hid hc1
  clear hc1
  go_wp2
  go_ret
  exact ⟨⟨_, rfl⟩, H1.out, hg1⟩

end Go.Proofs.Ytndoapgalbljpaa
