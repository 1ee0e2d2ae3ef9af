/-
  YtmmogpbbehgkiaaNest: slices whose elements hold slices (I): how they read, what a call owns of them, and the law file's helpers over them, each by a contract. Printed by a program (wip/gen/nest.py).
-/
import Derived.Test.YtmmogpbbehgkiaaHelp
namespace Go.Proofs.Ytmmogpbbehgkiaa
open Go Go.RowKit Go.Sort
set_option linter.unusedVariables false

/-- w' is w but for the blocks from lo on below hi, and new ones. -/
structure Turned (w w' : World) (lo hi : Nat) : Prop where
  os : w'.os = w.os
  tape : w'.tape = w.tape
  output : w'.output = w.output
  size : w.heap.size ≤ w'.heap.size
  block : ∀ k, k < w.heap.size → ¬ (lo ≤ k ∧ k < hi) → w'.heap[k]? = w.heap[k]?
theorem Turned.refl (w : World) (lo hi : Nat) : Turned w w lo hi := ⟨rfl, rfl, rfl, Nat.le_refl _, fun _ _ _ => rfl⟩
theorem Turned.trans {a b c : World} {lo hi : Nat} (h : Turned a b lo hi) (k : Turned b c lo hi) : Turned a c lo hi :=
  ⟨k.os.trans h.os, k.tape.trans h.tape, k.output.trans h.output, Nat.le_trans h.size k.size, fun i hi hne => (k.block i (Nat.lt_of_lt_of_le hi h.size) hne).trans (h.block i hi hne)⟩
theorem turned_of_below {w w' : World} (h : Below w.heap.size w w') (lo hi : Nat) : Turned w w' lo hi := ⟨h.os, h.tape, h.output, h.size, fun k hk _ => h.block k hk⟩
theorem turned_of_grown {w w' : World} {row : Option Nat} {lo hi : Nat} (h : w.grownBy w' row) (hr : ∀ k, row = some k → lo ≤ k ∧ k < hi) : Turned w w' lo hi :=
  ⟨h.os, h.tape, h.output, h.size, fun k hk hne => h.block k hk (fun e => hne (hr k e.symm))⟩
theorem Turned.below {w w' : World} {lo hi B : Nat} (h : Turned w w' lo hi) (hB : B ≤ lo) (hs : B ≤ w.heap.size) : Below B w w' :=
  ⟨h.os, h.tape, h.output, h.size, fun k hk => h.block k (by omega) (by omega)⟩
theorem Turned.wider {w w' : World} {lo hi lo' hi' : Nat} (h : Turned w w' lo hi) (h1 : lo' ≤ lo) (h2 : hi ≤ hi') : Turned w w' lo' hi' :=
  ⟨h.os, h.tape, h.output, h.size, fun k hk hne => h.block k hk (fun e => hne ⟨by omega, by omega⟩)⟩
theorem turned_cell {w w' : World} {lo hi : Nat} {a : Addr} {v : Value} (h : Turned w w' lo hi) (hc : w.cell? a = some v) (hn : ¬ (lo ≤ a.block ∧ a.block < hi)) : w'.cell? a = some v := by
  rw [World.cell?_of_block (h.block _ (lt_of_cell hc) hn)]; exact hc
theorem Own.turned {α : Type} {enc : α → List Value} {sz : Nat} {w w' : World} {base lo hi : Nat} {e : TypeId} {A : Option Addr} {n c : Nat} {l : List α} (h : Own enc sz w base e A n c l) (ht : Turned w w' lo hi) (hn : ∀ k, blockOf A = some k → ¬ (lo ≤ k ∧ k < hi)) : Own enc sz w' base e A n c l := by
  refine ⟨h.len, h.row.1, ?_⟩
  rcases h.row.2 with h2 | ⟨g, cap, cur, hv, hg, hh, r⟩
  · exact .inl h2
  · have h5 : A = some ⟨g, 0, none⟩ := by injection hv
    refine .inr ⟨g, cap, cur, hv, hg, ?_, r⟩
    rw [ht.block g (by rcases Nat.lt_or_ge g w.heap.size with q | q
                       · exact q
                       · rw [Array.getElem?_eq_none q] at hh; cases hh) (hn g (by rw [h5]; rfl))]
    exact hh
theorem Own.ne_block {α β : Type} {enc : α → List Value} {enc' : β → List Value} {sz sz' : Nat} {w : World} {base base' : Nat} {e e' : TypeId} {A A' : Option Addr} {n c n' c' : Nat} {l : List α} {l' : List β} (h : Own enc sz w base e A n c l) (h' : Own enc' sz' w base' e' A' n' c' l') (he : e ≠ e') : blockOf A = none ∨ blockOf A ≠ blockOf A' := by
  rcases h.row.2 with ⟨h0, _⟩ | ⟨g, cap, cur, hv, hb, hg, _⟩
  · injection h0 with h0; subst h0; exact .inl rfl
  · injection hv with hv; subst hv
    right
    intro hE
    rcases h'.row.2 with ⟨h0, _⟩ | ⟨g', cap', cur', hv', hb', hg', _⟩
    · injection h0 with h0; subst h0; simp [blockOf] at hE
    · injection hv' with hv'; subst hv'
      have e1 : g = g' := by simpa [blockOf] using hE
      subst e1
      rw [hg] at hg'
      injection hg' with hg'
      injection hg' with _ h2
      exact he h2
theorem app_set_replicate {α : Type} (l : List α) (z x : α) (k n : Nat) (hl : l.length = k) (hk : k < n) : (l ++ List.replicate (n - k) z).set k x = (l ++ [x]) ++ List.replicate (n - (k + 1)) z := by
  obtain ⟨m, hm⟩ : ∃ m, n - k = m + 1 := ⟨n - k - 1, by omega⟩
  rw [List.set_append_right _ _ (by omega), hl, Nat.sub_self, hm, List.replicate_succ, List.set_cons_zero, show n - (k + 1) = m from by omega]
  simp
theorem app_rep_get {α : Type} (l : List α) (z : α) (k n : Nat) (hl : l.length = k) (hk : k < n) : (l ++ List.replicate (n - k) z)[k]? = some z := by
  rw [List.getElem?_append_right (by omega), hl, Nat.sub_self]
  exact List.getElem?_replicate_of_lt (by omega)
theorem blk_lt {α : Type} {enc : α → List Value} {sz : Nat} {w : World} {base : Nat} {e : TypeId} {A : Option Addr} {n c : Nat} {l : List α} (h : Own enc sz w base e A n c l) : ∀ k, blockOf A = some k → k < w.heap.size := fun k hk => (h.lt hk).2

/-- The header of an element. -/
structure HI where
  pA : Option Addr
  pn : Nat
  pc : Nat
def hIV (h : HI) : List Value := [.slice h.pA h.pn h.pc]
theorem hIV_len (h : HI) : (hIV h).length = 1 := rfl
def HI0 : HI := ⟨none, 0, 0⟩
/-- A slice value that reads as the list l; hs: its elements' headers. -/
structure RdI (w : World) (A : Option Addr) (n c : Nat) (hs : List HI) (l : List (List Int)) : Prop where
  hd : Rd hIV 1 w A n c hs
  len : l.length = n
  p_ : ∀ (i : Nat) h x, hs[i]? = some h → l[i]? = some x → Rd inV 1 w h.pA h.pn h.pc x
theorem RdI.below {w w' : World} {A : Option Addr} {n c : Nat} {hs : List HI} {l : List (List Int)} (h : RdI w A n c hs l) (hb : Below w.heap.size w w') : RdI w' A n c hs l :=
  ⟨h.hd.below hb, h.len, fun i k x h1 h2 => (h.p_ i k x h1 h2).below hb⟩
theorem RdI.le {w : World} {A : Option Addr} {n c : Nat} {hs : List HI} {l : List (List Int)} (h : RdI w A n c hs l) : n ≤ 9223372036854775807 := h.hd.le
theorem RdI.at {w : World} {A : Option Addr} {n c : Nat} {hs : List HI} {l : List (List Int)} (h : RdI w A n c hs l) {i : Nat} (hi : i < n) :
    ∃ b off k x, A = some ⟨b, off, none⟩ ∧ l[i]? = some x ∧ hs[i]? = some k ∧ w.cell? ⟨b, off + i, none⟩ = some (.slice k.pA k.pn k.pc) ∧ Rd inV 1 w k.pA k.pn k.pc x := by
  obtain ⟨b, off, e, hc⟩ := h.hd.at_ (by omega)
  have hl : i < l.length := by have := h.len; omega
  have hh : i < hs.length := by have := h.hd.len; omega
  exact ⟨b, off, hs[i], l[i], e, List.getElem?_eq_getElem hl, List.getElem?_eq_getElem hh, by simpa using hc i _ (List.getElem?_eq_getElem hh) 0 _ rfl, h.p_ i _ _ (List.getElem?_eq_getElem hh) (List.getElem?_eq_getElem hl)⟩

/-- The rows of the elements, all of the call's own, each in a block of its own; below top. -/
structure InnI (w : World) (base top : Nat) (hs : List HI) (l : List (List Int)) : Prop where
  p_ : ∀ (i : Nat) h x, hs[i]? = some h → l[i]? = some x → Own inV 1 w base 3 h.pA h.pn h.pc x
  dp : ∀ (i j : Nat) h k, i ≠ j → hs[i]? = some h → hs[j]? = some k → blockOf h.pA = none ∨ blockOf h.pA ≠ blockOf k.pA
  tp : ∀ (i : Nat) h, hs[i]? = some h → ∀ k, blockOf h.pA = some k → k < top
/-- A slice of the call's own with all its elements' rows. -/
structure OwnI (w : World) (base top : Nat) (A : Option Addr) (n c : Nat) (hs : List HI) (l : List (List Int)) : Prop where
  hd : Own hIV 1 w base 37 A n c hs
  len : l.length = n
  inn : InnI w base top hs l
  th : ∀ k, blockOf A = some k → k < top
theorem InnI.nil (w : World) (base top : Nat) (l : List (List Int)) : InnI w base top [] l := ⟨fun i h x h1 => by simp at h1, fun i j h k _ h1 => by simp at h1, fun i h h1 => by simp at h1⟩
theorem InnI.below {w w' : World} {base top : Nat} {hs : List HI} {l : List (List Int)} (h : InnI w base top hs l) (hb : Below w.heap.size w w') : InnI w' base top hs l :=
  ⟨fun i k x h1 h2 => (h.p_ i k x h1 h2).below hb, h.dp, h.tp⟩
theorem InnI.top_le {w : World} {base top : Nat} {hs : List HI} {l : List (List Int)} {top' : Nat} (h : InnI w base top hs l) (ht : top ≤ top') : InnI w base top' hs l :=
  ⟨h.p_, h.dp, fun i k h1 b hb => Nat.lt_of_lt_of_le (h.tp i k h1 b hb) ht⟩
theorem InnI.base_le {w : World} {base top : Nat} {hs : List HI} {l : List (List Int)} {b0 : Nat} (h : InnI w base top hs l) (hb : b0 ≤ base) : InnI w b0 top hs l :=
  ⟨fun i k x h1 h2 => (h.p_ i k x h1 h2).base_le hb, h.dp, h.tp⟩
theorem InnI.turned {w w' : World} {base top : Nat} {hs : List HI} {l : List (List Int)} {lo hi : Nat} (h : InnI w base top hs l) (hlen : hs.length ≤ l.length) (ht : Turned w w' lo hi) (hn : hi ≤ base ∨ top ≤ lo) : InnI w' base top hs l :=
  ⟨fun i k x h1 h2 => (h.p_ i k x h1 h2).turned ht (fun b hb => by have a1 := ((h.p_ i k x h1 h2).lt hb).1; have a2 := h.tp i k h1 b hb; omega), h.dp, h.tp⟩
theorem InnI.hdw {w w' : World} {base top : Nat} {hs : List HI} {l : List (List Int)} {hs' : List HI} {b' n c : Nat} {A : Option Addr} (h : InnI w base top hs l) (hO : Own hIV 1 w b' 37 A n c hs') (hg : w.grownBy w' (blockOf A)) : InnI w' base top hs l :=
  ⟨fun i k x h1 h2 => (h.p_ i k x h1 h2).grown hg ((h.p_ i k x h1 h2).ne_block hO (by decide)), h.dp, h.tp⟩
theorem InnI.snoc {w w' : World} {base top : Nat} {hs : List HI} {l : List (List Int)} {k top' : Nat} {h : HI} {x : List Int} {bb0 : Nat} (hI : InnI w base top hs l) (hk : hs.length = k) (hx : l[k]? = some x) (hb : Below w.heap.size w w') (ht : top ≤ top') (o0 : Own inV 1 w' bb0 3 h.pA h.pn h.pc x) (g0 : bb0 ≥ base) (m0 : bb0 ≥ w.heap.size) (z0 : ∀ k, blockOf h.pA = some k → k < top') : InnI w' base top' (hs ++ [h]) l := by
  have hkl : k < l.length := (List.getElem?_eq_some_iff.1 hx).1
  have sp : ∀ (i : Nat) y, (hs ++ [h])[i]? = some y → (i < k ∧ hs[i]? = some y) ∨ (i = k ∧ y = h) := fun i y hy => by
    by_cases hi : i < k
    · rw [List.getElem?_append_left (by omega)] at hy; exact .inl ⟨hi, hy⟩
    · rw [List.getElem?_append_right (by omega)] at hy
      have h0 : i - hs.length = 0 := by
        have := (List.getElem?_eq_some_iff.1 hy).1
        simpa using this
      rw [h0] at hy
      exact .inr ⟨by omega, by simpa using hy.symm⟩
  refine ⟨?a0, ?d0, ?t0⟩
  case a0 =>
    intro i y z hy hz
    rcases sp i y hy with ⟨_, h1⟩ | ⟨rfl, rfl⟩
    · exact (hI.p_ i y z h1 hz).below hb
    · rw [hx] at hz; injection hz with hz; subst hz; exact o0.base_le g0
  case d0 =>
    intro i q y z hne hy hz
    have old : ∀ (r : Nat) u, hs[r]? = some u → ∀ b, blockOf u.pA = some b → b < w.heap.size := fun r u hu b hbu => by
      have hr : r < l.length := by have := (List.getElem?_eq_some_iff.1 hu).1; omega
      exact ((hI.p_ r u _ hu (List.getElem?_eq_getElem hr)).lt hbu).2
    rcases sp i y hy with ⟨_, h1⟩ | ⟨e1, e2⟩
    · rcases sp q z hz with ⟨_, h2⟩ | ⟨e3, e4⟩
      · exact hI.dp i q y z hne h1 h2
      · subst e4
        cases hbk : blockOf y.pA with
        | none => exact .inl rfl
        | some b =>
          refine .inr fun e => ?_
          have a1 := old i y h1 b hbk
          have a2 := (o0.lt (k := b) e.symm).1
          omega
    · rcases sp q z hz with ⟨_, h2⟩ | ⟨e3, e4⟩
      · subst e2
        cases hbk : blockOf y.pA with
        | none => exact .inl rfl
        | some b =>
          refine .inr fun e => ?_
          have a1 := old q z h2 b e.symm
          have a2 := (o0.lt (k := b) hbk).1
          omega
      · omega
  case t0 =>
    intro i y hy b hbk
    rcases sp i y hy with ⟨_, h1⟩ | ⟨_, rfl⟩
    · exact Nat.lt_of_lt_of_le (hI.tp i y h1 b hbk) ht
    · exact z0 b hbk
theorem OwnI.below {w w' : World} {base top : Nat} {A : Option Addr} {n c : Nat} {hs : List HI} {l : List (List Int)} (h : OwnI w base top A n c hs l) (hb : Below w.heap.size w w') : OwnI w' base top A n c hs l := ⟨h.hd.below hb, h.len, h.inn.below hb, h.th⟩
theorem OwnI.hlen {w : World} {base top : Nat} {A : Option Addr} {n c : Nat} {hs : List HI} {l : List (List Int)} (h : OwnI w base top A n c hs l) : hs.length ≤ l.length := by rw [h.len, h.hd.len]; exact Nat.le_refl _
theorem OwnI.turned {w w' : World} {base top : Nat} {A : Option Addr} {n c : Nat} {hs : List HI} {l : List (List Int)} {lo hi : Nat} (h : OwnI w base top A n c hs l) (ht : Turned w w' lo hi) (hn : hi ≤ base ∨ top ≤ lo) : OwnI w' base top A n c hs l :=
  ⟨h.hd.turned ht (fun b hb => by have a1 := (h.hd.lt hb).1; have a2 := h.th b hb; omega), h.len, h.inn.turned h.hlen ht hn, h.th⟩
theorem OwnI.base_le {w : World} {base top : Nat} {A : Option Addr} {n c : Nat} {hs : List HI} {l : List (List Int)} {b0 : Nat} (h : OwnI w base top A n c hs l) (hb : b0 ≤ base) : OwnI w b0 top A n c hs l := ⟨h.hd.base_le hb, h.len, h.inn.base_le hb, h.th⟩
theorem OwnI.rd {w : World} {base top : Nat} {A : Option Addr} {n c : Nat} {hs : List HI} {l : List (List Int)} (h : OwnI w base top A n c hs l) : RdI w A n c hs l := ⟨h.hd.rd hIV_len, h.len, fun i k x h1 h2 => (h.inn.p_ i k x h1 h2).rd inV_len⟩
theorem OwnI.nil (w : World) (base top : Nat) : OwnI w base top none 0 0 [] [] := ⟨Own.nil _ _ _, rfl, InnI.nil _ _ _ _, fun k h => by simp [blockOf] at h⟩
/-- One element's row p is written. -/
theorem OwnI.put_p {w w' : World} {base top : Nat} {A : Option Addr} {n c : Nat} {hs : List HI} {l : List (List Int)} {i : Nat} {h : HI} {x : List Int} {y : List Int} (hO : OwnI w base top A n c hs l) (hh : hs[i]? = some h) (hx : l[i]? = some x) (hg : w.grownBy w' (blockOf h.pA)) (ho : Own inV 1 w' base 3 h.pA h.pn h.pc y) :
    OwnI w' base top A n c hs (l.set i y) ∧ Turned w w' base top := by
  have hil : i < l.length := (List.getElem?_eq_some_iff.1 hx).1
  have me := hO.inn.p_ i h x hh hx
  have T : Turned w w' base top := turned_of_grown hg (fun k hk => ⟨(me.lt hk).1, hO.inn.tp i h hh k hk⟩)
  refine ⟨⟨hO.hd.grown hg (hO.hd.ne_block me (by decide)), by simpa using hO.len, ⟨?a0, hO.inn.dp, hO.inn.tp⟩, hO.th⟩, T⟩
  case a0 =>
    intro q k z hk hz
    by_cases e : q = i
    · subst e
      rw [hh] at hk
      injection hk with hk
      subst hk
      rw [List.getElem?_set_self hil] at hz
      injection hz with hz
      subst hz
      exact ho
    · rw [List.getElem?_set_ne (fun a => e a.symm)] at hz
      exact (hO.inn.p_ q k z hk hz).grown hg (hO.inn.dp q i k h e hk hh)
set_option maxRecDepth 100000 in
set_option maxHeartbeats 1000000 in
theorem eqIntSS_same (A B : Option Addr) (n m c d : Nat) (hs ks : List HI) (l : List (List Int)) (w : World) (ha : RdI w A n c hs l) (hb : RdI w B m d ks l) :
    Calls Try.prog 9 #[.slice A n c, .slice B m d] w fun e w' => e = .returned (.bool true) ∧ Below w.heap.size w w' := by
  have hm := ha.le
  obtain rfl : n = m := ha.len.symm.trans hb.len
  go_enter Try.func9, Try.ntmps9
  go_wp2
  go_loopw [5] (fun i wr => ∃ k : Nat, k ≤ n ∧ i = .int .i64 k ∧ Below w.heap.size w wr) (fun i _ => n - (intOf i).toNat)
  case atStart => exact ⟨0, Nat.zero_le _, rfl, Below.refl _ _⟩
  case round =>
    obtain ⟨k, hk, rfl, hbw⟩ := hrel
    by_cases hlt : k < n
    · obtain ⟨b1, o1, h, x, rfl, hx, -, c0, x0⟩ := (ha.below hbw).at hlt
      obtain ⟨b2, o2, h', x', rfl, hx', -, d0, y0⟩ := (hb.below hbw).at hlt
      obtain rfl : x = x' := by rw [hx] at hx'; injection hx'
      clear hx hx' ha hb
      have k0 := cell_regrown c0
      have q0 := cell_regrown d0
      go_wp2
      refine wp_region_quiet_below (by kernel_rfl) (by kernel_rfl) ?_
      repeat (go_big_quiet_step ((go_at_call 36; exact Calls.regrown_of (eqIntS_same _ _ _ _ _ _ _ _ (x0.below (below_regrown _ _ _)) (y0.below (below_regrown _ _ _))))))
      refine wpQuiet_nil ?_
      intro _ hw'
      obtain ⟨⟨dq, osq⟩, hw''⟩ := hw'
      subst hw''
      go_wp2
      go_roundw
      case rel => exact ⟨k + 1, by omega, by go_num, below_grow hbw _ _⟩
      case measure => simp [intOf]; omega
    · go_wp2
      go_ret
      exact ⟨rfl, hbw⟩

/-- How many cells the elements hold. -/
def sizI (x : List Int) : Nat := (x).length
def totI (l : List (List Int)) : Nat := (l.map sizI).sum
theorem totI_next {l : List (List Int)} {k : Nat} {x : List Int} (h : l[k]? = some x) : totI (l.take (k + 1)) = totI (l.take k) + sizI x := by
  unfold totI; rw [List.take_add_one, h]; simp
theorem totI_le (l : List (List Int)) (k : Nat) : totI (l.take k) ≤ totI l := by
  have h : totI l = totI (l.take k) + totI (l.drop k) := by unfold totI; rw [← List.sum_append, ← List.map_append, List.take_append_drop]
  omega
theorem totI_mem {l : List (List Int)} {k : Nat} {x : List Int} (h : l[k]? = some x) : totI (l.take k) + sizI x ≤ totI l := by
  rw [← totI_next h]; exact totI_le _ _
/-- The marks of the element at a place. -/
def mkIntSS (k0 : Int) (l : List (List Int)) (i : Nat) (x : List Int) : List Int := marksInt (k0 + (totI (l.take i) : Int)) (x).length
def marksIntSS (k0 : Int) (l : List (List Int)) : List (List Int) := l.mapIdx (mkIntSS k0 l)
theorem marksIntSS_get {k0 : Int} {l : List (List Int)} {i : Nat} {x : List Int} (h : l[i]? = some x) : (marksIntSS k0 l)[i]? = some (mkIntSS k0 l i x) := by unfold marksIntSS; rw [List.getElem?_mapIdx, h]; rfl
theorem marksIntSS_len (k0 : Int) (l : List (List Int)) : (marksIntSS k0 l).length = l.length := by simp [marksIntSS]
set_option maxRecDepth 100000 in
set_option maxHeartbeats 1000000 in
theorem markIntSS_any (A : Option Addr) (n c base top : Nat) (hs : List HI) (l : List (List Int)) (k0 : Int) (w : World) (ha : OwnI w base top A n c hs l) (h0 : 1 ≤ k0) (h1 : k0 ≤ 100000000) (hn : n ≤ 4194304) (hq : totI l ≤ 4194304) (hsz : base ≤ w.heap.size) :
    Calls Try.prog 12 #[.slice A n c, .int .i64 k0] w fun e w' => e = .returned (.int .i64 (k0 + (totI l : Int))) ∧ OwnI w' base top A n c hs (marksIntSS k0 l) ∧ Turned w w' base top := by
  have hm := ha.rd.le
  have HL := Lib.hid ha.len
  have HN := Lib.hid ha.hd.len
  go_enter Try.func12, Try.ntmps12
  go_wp2
  go_loopw [1, 5] (fun kv i wr => ∃ k : Nat, k ≤ n ∧ i = .int .i64 k ∧ kv = .int .i64 (k0 + (totI (l.take k) : Int)) ∧ Turned w wr base top ∧ ∃ l', OwnI wr base top A n c hs l' ∧ (∀ j, j < k → l'[j]? = (marksIntSS k0 l)[j]?) ∧ (∀ j, k ≤ j → l'[j]? = l[j]?)) (fun _ i _ => n - (intOf i).toNat)
  case atStart => exact ⟨0, Nat.zero_le _, rfl, by simp [totI], Turned.refl _ _ _, l, ha, (fun j hj => absurd hj (by omega)), (fun j _ => rfl)⟩
  case round =>
    clear ha
    obtain ⟨k, hk, rfl, rfl, hT, l', ho, hup, hdn⟩ := hrel
    have hsr := hT.size
    by_cases hlt : k < n
    · obtain ⟨b1, o1, h, x, rfl, hx, hh, c0, x0⟩ := ho.rd.at hlt
      have hlx : l[k]? = some x := by rw [← hdn k (Nat.le_refl _)]; exact hx
      have hml := totI_mem hlx
      have NX := Lib.hid (totI_next hlx)
      have HU := Lib.hid hup
      have HD := Lib.hid hdn
      have HX := Lib.hid hx
      have HLX := Lib.hid hlx
      have HH := Lib.hid hh
      have MG := Lib.hid (marksIntSS_get (k0 := k0) hlx)
      clear hup hdn hx hlx hh x0
      simp only [sizI] at hml

      have r0 := ho.inn.p_ k h _ HH.out HX.out
      have ln0 : (x).length = h.pn := r0.len
      have L0 := Lib.hid ln0
      have lb0 : h.pn ≤ (x).length := by rw [ln0]; exact Nat.le_refl _
      have lc0 : (x).length ≤ h.pn := by rw [ln0]; exact Nat.le_refl _
      clear ln0
      have CU := Lib.hid ho
      clear ho
      have R0 := Lib.hid r0
      clear r0
      go_wp2_with fail
      refine (markIntS_any _ _ _ base _ _ _ _ R0.out (by omega) (by omega) (by omega) (by omega)).mono ?_
      rintro e v0 ⟨rfl, ro0, rg0⟩
      obtain ⟨oq0, tq0⟩ := CU.out.put_p HH.out HX.out rg0 ro0
      have s0 := tq0.size
      have T0 := Turned.trans hT tq0
      have HO : Hid (∃ l2, OwnI v0 base top (some ⟨b1, o1, none⟩) n c hs l2 ∧ (∀ j, j < k + 1 → l2[j]? = (marksIntSS k0 l)[j]?) ∧ (∀ j, k + 1 ≤ j → l2[j]? = l[j]?)) := by
        refine ⟨_, oq0, fun j hj => ?_, fun j hj => ?_⟩
        · by_cases e : j = k
          · subst e
            rw [MG.out]
            have hkl := (List.getElem?_eq_some_iff.1 HX.out).1
            simp [mkIntSS, hkl, L0.out]
          · have h9 := HU.out j (by omega)
            rw [← h9]
            simp [List.getElem?_set_ne (fun a => e a.symm)]
        · have h9 := HD.out j (by omega)
          rw [← h9]
          simp [List.getElem?_set_ne (show k ≠ j by omega)]
      have TT := Lib.hid T0
      have KE : Hid (k0 + (totI (l.take k) : Int) + (h.pn : Int) = k0 + (totI (l.take (k + 1)) : Int)) := by
        show _ = _
        rw [NX.out]; simp only [sizI]; have := L0.out; have := L0.out; push_cast; omega
      clear oq0 tq0 T0
      go_wp2
      go_roundw
      case rel => exact ⟨k + 1, by omega, by go_num, by first | (rw [← KE.out]; done) | (rw [← KE.out]; go_num), TT.out, HO.out⟩
      case measure => simp [intOf]; omega
    · obtain rfl : k = n := by omega
      have e : l' = marksIntSS k0 l := List.ext_getElem? fun j => by
        by_cases hj : j < k
        · exact hup j hj
        · rw [List.getElem?_eq_none (by rw [ho.len]; omega), List.getElem?_eq_none (by rw [marksIntSS_len, HL.out]; omega)]
      subst e
      have E := Lib.hid (show l.take k = l by rw [List.take_of_length_le (by rw [HL.out]; exact Nat.le_refl _)])
      have HO := Lib.hid ho
      clear hup hdn ho
      go_wp2
      go_ret
      exact ⟨ret_int (by rw [E.out]), HO.out, hT⟩

set_option maxRecDepth 100000 in
set_option maxHeartbeats 1000000 in
theorem heldIntSS_any (A : Option Addr) (n c : Nat) (hs : List HI) (l : List (List Int)) (k0 : Int) (w : World) (ha : RdI w A n c hs (marksIntSS k0 l)) (h0 : 1 ≤ k0) (h1 : k0 ≤ 100000000) (hn : n ≤ 4194304) (hq : totI l ≤ 4194304) :
    Calls Try.prog 13 #[.slice A n c, .int .i64 k0] w fun e w' => e = .returned (.int .i64 (k0 + (totI l : Int))) ∧ Below w.heap.size w w' := by
  have hm := ha.le
  have HL := Lib.hid (show l.length = n by rw [← marksIntSS_len k0 l]; exact ha.len)
  go_enter Try.func13, Try.ntmps13
  go_wp2
  go_loopw [1, 5] (fun kv i wr => ∃ k : Nat, k ≤ n ∧ i = .int .i64 k ∧ kv = .int .i64 (k0 + (totI (l.take k) : Int)) ∧ Below w.heap.size w wr) (fun _ i _ => n - (intOf i).toNat)
  case atStart => exact ⟨0, Nat.zero_le _, rfl, by simp [totI], Below.refl _ _⟩
  case round =>
    obtain ⟨k, hk, rfl, rfl, hbw⟩ := hrel
    by_cases hlt : k < n
    · obtain ⟨b1, o1, h, y, rfl, hy, hh, c0, x0⟩ := (ha.below hbw).at hlt
      obtain ⟨x, hx⟩ : ∃ x, l[k]? = some x := ⟨_, List.getElem?_eq_getElem (by rw [HL.out]; exact hlt)⟩
      rw [marksIntSS_get hx] at hy
      injection hy with hy
      subst hy
      have hml := totI_mem hx
      have NX := Lib.hid (totI_next hx)
      clear hx hh ha
      simp only [sizI, mkIntSS] at hml x0

      have ln0 : h.pn = (x).length := by rw [← x0.len, marksInt_len]
      have L0 := Lib.hid ln0
      have lb0 : h.pn ≤ (x).length := by rw [ln0]; exact Nat.le_refl _
      have lc0 : (x).length ≤ h.pn := by rw [ln0]; exact Nat.le_refl _
      clear ln0
      have X0 : Hid (Rd inV 1 wr h.pA h.pn h.pc (marksInt (k0 + (totI (l.take k) : Int)) h.pn)) := by
        show Rd _ _ _ _ _ _ _
        have h5 := x0
        simp only [← L0.out] at h5
        exact h5
      clear x0
      go_wp2_with fail
      refine (heldIntS_any _ _ _ _ _ X0.out (by omega) (by omega) (by omega)).mono ?_
      rintro e v0 ⟨rfl, b0⟩
      have u0 := b0
      have KE : Hid (k0 + (totI (l.take k) : Int) + (h.pn : Int) = k0 + (totI (l.take (k + 1)) : Int)) := by
        show _ = _
        rw [NX.out]; simp only [sizI]; have := L0.out; have := L0.out; push_cast; omega
      go_wp2
      go_roundw
      case rel => exact ⟨k + 1, by omega, by go_num, by first | (rw [← KE.out]; done) | (rw [← KE.out]; go_num), below_trans hbw u0⟩
      case measure => simp [intOf]; omega
    · obtain rfl : k = n := by omega
      have E := Lib.hid (show l.take k = l by rw [List.take_of_length_le (by rw [HL.out]; exact Nat.le_refl _)])
      clear ha
      go_wp2
      go_ret
      exact ⟨ret_int (by rw [E.out]), hbw⟩


end Go.Proofs.Ytmmogpbbehgkiaa
