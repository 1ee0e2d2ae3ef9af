/-
  YtndoapgalbljpaaNest: slices whose elements hold slices (C, I): how they read, what a call owns of them, and the law file's helpers over them, each by a contract. Printed by a program (wip/gen/nest.py).
-/
import Derived.Test.YtndoapgalbljpaaHelp
namespace Go.Proofs.Ytndoapgalbljpaa
open Go Go.RowKit Go.Sort
set_option linter.unusedVariables false

/-- w' is w but for the blocks from lo on below hi, and new ones. -/
structure Turned (w w' : World) (lo hi : Nat) : Prop where
  os : w'.os = w.os
  tape : w'.tape = w.tape
  output : w'.output = w.output
  size : w.heap.size ≤ w'.heap.size
  block : ∀ k, k < w.heap.size → ¬ (lo ≤ k ∧ k < hi) → w'.heap[k]? = w.heap[k]?
theorem Turned.refl (w : World) (lo hi : Nat) : Turned w w lo hi := ⟨rfl, rfl, rfl, Nat.le_refl _, fun _ _ _ => rfl⟩
theorem Turned.trans {a b c : World} {lo hi : Nat} (h : Turned a b lo hi) (k : Turned b c lo hi) : Turned a c lo hi :=
  ⟨k.os.trans h.os, k.tape.trans h.tape, k.output.trans h.output, Nat.le_trans h.size k.size, fun i hi hne => (k.block i (Nat.lt_of_lt_of_le hi h.size) hne).trans (h.block i hi hne)⟩
theorem turned_of_below {w w' : World} (h : Below w.heap.size w w') (lo hi : Nat) : Turned w w' lo hi := ⟨h.os, h.tape, h.output, h.size, fun k hk _ => h.block k hk⟩
theorem turned_of_grown {w w' : World} {row : Option Nat} {lo hi : Nat} (h : w.grownBy w' row) (hr : ∀ k, row = some k → lo ≤ k ∧ k < hi) : Turned w w' lo hi :=
  ⟨h.os, h.tape, h.output, h.size, fun k hk hne => h.block k hk (fun e => hne (hr k e.symm))⟩
theorem Turned.below {w w' : World} {lo hi B : Nat} (h : Turned w w' lo hi) (hB : B ≤ lo) (hs : B ≤ w.heap.size) : Below B w w' :=
  ⟨h.os, h.tape, h.output, h.size, fun k hk => h.block k (by omega) (by omega)⟩
theorem Turned.wider {w w' : World} {lo hi lo' hi' : Nat} (h : Turned w w' lo hi) (h1 : lo' ≤ lo) (h2 : hi ≤ hi') : Turned w w' lo' hi' :=
  ⟨h.os, h.tape, h.output, h.size, fun k hk hne => h.block k hk (fun e => hne ⟨by omega, by omega⟩)⟩
theorem turned_cell {w w' : World} {lo hi : Nat} {a : Addr} {v : Value} (h : Turned w w' lo hi) (hc : w.cell? a = some v) (hn : ¬ (lo ≤ a.block ∧ a.block < hi)) : w'.cell? a = some v := by
  rw [World.cell?_of_block (h.block _ (lt_of_cell hc) hn)]; exact hc
theorem Own.turned {α : Type} {enc : α → List Value} {sz : Nat} {w w' : World} {base lo hi : Nat} {e : TypeId} {A : Option Addr} {n c : Nat} {l : List α} (h : Own enc sz w base e A n c l) (ht : Turned w w' lo hi) (hn : ∀ k, blockOf A = some k → ¬ (lo ≤ k ∧ k < hi)) : Own enc sz w' base e A n c l := by
  refine ⟨h.len, h.row.1, ?_⟩
  rcases h.row.2 with h2 | ⟨g, cap, cur, hv, hg, hh, r⟩
  · exact .inl h2
  · have h5 : A = some ⟨g, 0, none⟩ := by injection hv
    refine .inr ⟨g, cap, cur, hv, hg, ?_, r⟩
    rw [ht.block g (by rcases Nat.lt_or_ge g w.heap.size with q | q
                       · exact q
                       · rw [Array.getElem?_eq_none q] at hh; cases hh) (hn g (by rw [h5]; rfl))]
    exact hh
theorem Own.ne_block {α β : Type} {enc : α → List Value} {enc' : β → List Value} {sz sz' : Nat} {w : World} {base base' : Nat} {e e' : TypeId} {A A' : Option Addr} {n c n' c' : Nat} {l : List α} {l' : List β} (h : Own enc sz w base e A n c l) (h' : Own enc' sz' w base' e' A' n' c' l') (he : e ≠ e') : blockOf A = none ∨ blockOf A ≠ blockOf A' := by
  rcases h.row.2 with ⟨h0, _⟩ | ⟨g, cap, cur, hv, hb, hg, _⟩
  · injection h0 with h0; subst h0; exact .inl rfl
  · injection hv with hv; subst hv
    right
    intro hE
    rcases h'.row.2 with ⟨h0, _⟩ | ⟨g', cap', cur', hv', hb', hg', _⟩
    · injection h0 with h0; subst h0; simp [blockOf] at hE
    · injection hv' with hv'; subst hv'
      have e1 : g = g' := by simpa [blockOf] using hE
      subst e1
      rw [hg] at hg'
      injection hg' with hg'
      injection hg' with _ h2
      exact he h2
theorem app_set_replicate {α : Type} (l : List α) (z x : α) (k n : Nat) (hl : l.length = k) (hk : k < n) : (l ++ List.replicate (n - k) z).set k x = (l ++ [x]) ++ List.replicate (n - (k + 1)) z := by
  obtain ⟨m, hm⟩ : ∃ m, n - k = m + 1 := ⟨n - k - 1, by omega⟩
  rw [List.set_append_right _ _ (by omega), hl, Nat.sub_self, hm, List.replicate_succ, List.set_cons_zero, show n - (k + 1) = m from by omega]
  simp
theorem app_rep_get {α : Type} (l : List α) (z : α) (k n : Nat) (hl : l.length = k) (hk : k < n) : (l ++ List.replicate (n - k) z)[k]? = some z := by
  rw [List.getElem?_append_right (by omega), hl, Nat.sub_self]
  exact List.getElem?_replicate_of_lt (by omega)
theorem blk_lt {α : Type} {enc : α → List Value} {sz : Nat} {w : World} {base : Nat} {e : TypeId} {A : Option Addr} {n c : Nat} {l : List α} (h : Own enc sz w base e A n c l) : ∀ k, blockOf A = some k → k < w.heap.size := fun k hk => (h.lt hk).2

structure CL where
  ws : List ByteArray
  ns : List Int
deriving DecidableEq
/-- The header of an element. -/
structure HC where
  wA : Option Addr
  wn : Nat
  wc : Nat
  nA : Option Addr
  nn : Nat
  nc : Nat
def hCV (h : HC) : List Value := [.slice h.wA h.wn h.wc, .slice h.nA h.nn h.nc]
theorem hCV_len (h : HC) : (hCV h).length = 2 := rfl
def HC0 : HC := ⟨none, 0, 0, none, 0, 0⟩
/-- A slice value that reads as the list l; hs: its elements' headers. -/
structure RdC (w : World) (A : Option Addr) (n c : Nat) (hs : List HC) (l : List (CL)) : Prop where
  hd : Rd hCV 2 w A n c hs
  len : l.length = n
  w_ : ∀ (i : Nat) h x, hs[i]? = some h → l[i]? = some x → Rd stV 1 w h.wA h.wn h.wc x.ws
  n_ : ∀ (i : Nat) h x, hs[i]? = some h → l[i]? = some x → Rd inV 1 w h.nA h.nn h.nc x.ns
theorem RdC.below {w w' : World} {A : Option Addr} {n c : Nat} {hs : List HC} {l : List (CL)} (h : RdC w A n c hs l) (hb : Below w.heap.size w w') : RdC w' A n c hs l :=
  ⟨h.hd.below hb, h.len, fun i k x h1 h2 => (h.w_ i k x h1 h2).below hb, fun i k x h1 h2 => (h.n_ i k x h1 h2).below hb⟩
theorem RdC.le {w : World} {A : Option Addr} {n c : Nat} {hs : List HC} {l : List (CL)} (h : RdC w A n c hs l) : n ≤ 9223372036854775807 := h.hd.le
theorem RdC.at {w : World} {A : Option Addr} {n c : Nat} {hs : List HC} {l : List (CL)} (h : RdC w A n c hs l) {i : Nat} (hi : i < n) :
    ∃ b off k x, A = some ⟨b, off, none⟩ ∧ l[i]? = some x ∧ hs[i]? = some k ∧ w.cell? ⟨b, off + i * 2, none⟩ = some (.slice k.wA k.wn k.wc) ∧ w.cell? ⟨b, off + i * 2 + 1, none⟩ = some (.slice k.nA k.nn k.nc) ∧ Rd stV 1 w k.wA k.wn k.wc x.ws ∧ Rd inV 1 w k.nA k.nn k.nc x.ns := by
  obtain ⟨b, off, e, hc⟩ := h.hd.at_ (by omega)
  have hl : i < l.length := by have := h.len; omega
  have hh : i < hs.length := by have := h.hd.len; omega
  exact ⟨b, off, hs[i], l[i], e, List.getElem?_eq_getElem hl, List.getElem?_eq_getElem hh, hc i _ (List.getElem?_eq_getElem hh) 0 _ rfl, hc i _ (List.getElem?_eq_getElem hh) 1 _ rfl, h.w_ i _ _ (List.getElem?_eq_getElem hh) (List.getElem?_eq_getElem hl), h.n_ i _ _ (List.getElem?_eq_getElem hh) (List.getElem?_eq_getElem hl)⟩

/-- The rows of the elements, all of the call's own, each in a block of its own; below top. -/
structure InnC (w : World) (base top : Nat) (hs : List HC) (l : List (CL)) : Prop where
  w_ : ∀ (i : Nat) h x, hs[i]? = some h → l[i]? = some x → Own stV 1 w base 9 h.wA h.wn h.wc x.ws
  n_ : ∀ (i : Nat) h x, hs[i]? = some h → l[i]? = some x → Own inV 1 w base 3 h.nA h.nn h.nc x.ns
  dw : ∀ (i j : Nat) h k, i ≠ j → hs[i]? = some h → hs[j]? = some k → blockOf h.wA = none ∨ blockOf h.wA ≠ blockOf k.wA
  dn : ∀ (i j : Nat) h k, i ≠ j → hs[i]? = some h → hs[j]? = some k → blockOf h.nA = none ∨ blockOf h.nA ≠ blockOf k.nA
  tw : ∀ (i : Nat) h, hs[i]? = some h → ∀ k, blockOf h.wA = some k → k < top
  tn : ∀ (i : Nat) h, hs[i]? = some h → ∀ k, blockOf h.nA = some k → k < top
/-- A slice of the call's own with all its elements' rows. -/
structure OwnC (w : World) (base top : Nat) (A : Option Addr) (n c : Nat) (hs : List HC) (l : List (CL)) : Prop where
  hd : Own hCV 2 w base 57 A n c hs
  len : l.length = n
  inn : InnC w base top hs l
  th : ∀ k, blockOf A = some k → k < top
theorem InnC.nil (w : World) (base top : Nat) (l : List (CL)) : InnC w base top [] l := ⟨fun i h x h1 => by simp at h1, fun i h x h1 => by simp at h1, fun i j h k _ h1 => by simp at h1, fun i j h k _ h1 => by simp at h1, fun i h h1 => by simp at h1, fun i h h1 => by simp at h1⟩
theorem InnC.below {w w' : World} {base top : Nat} {hs : List HC} {l : List (CL)} (h : InnC w base top hs l) (hb : Below w.heap.size w w') : InnC w' base top hs l :=
  ⟨fun i k x h1 h2 => (h.w_ i k x h1 h2).below hb, fun i k x h1 h2 => (h.n_ i k x h1 h2).below hb, h.dw, h.dn, h.tw, h.tn⟩
theorem InnC.top_le {w : World} {base top : Nat} {hs : List HC} {l : List (CL)} {top' : Nat} (h : InnC w base top hs l) (ht : top ≤ top') : InnC w base top' hs l :=
  ⟨h.w_, h.n_, h.dw, h.dn, fun i k h1 b hb => Nat.lt_of_lt_of_le (h.tw i k h1 b hb) ht, fun i k h1 b hb => Nat.lt_of_lt_of_le (h.tn i k h1 b hb) ht⟩
theorem InnC.base_le {w : World} {base top : Nat} {hs : List HC} {l : List (CL)} {b0 : Nat} (h : InnC w base top hs l) (hb : b0 ≤ base) : InnC w b0 top hs l :=
  ⟨fun i k x h1 h2 => (h.w_ i k x h1 h2).base_le hb, fun i k x h1 h2 => (h.n_ i k x h1 h2).base_le hb, h.dw, h.dn, h.tw, h.tn⟩
theorem InnC.turned {w w' : World} {base top : Nat} {hs : List HC} {l : List (CL)} {lo hi : Nat} (h : InnC w base top hs l) (hlen : hs.length ≤ l.length) (ht : Turned w w' lo hi) (hn : hi ≤ base ∨ top ≤ lo) : InnC w' base top hs l :=
  ⟨fun i k x h1 h2 => (h.w_ i k x h1 h2).turned ht (fun b hb => by have a1 := ((h.w_ i k x h1 h2).lt hb).1; have a2 := h.tw i k h1 b hb; omega), fun i k x h1 h2 => (h.n_ i k x h1 h2).turned ht (fun b hb => by have a1 := ((h.n_ i k x h1 h2).lt hb).1; have a2 := h.tn i k h1 b hb; omega), h.dw, h.dn, h.tw, h.tn⟩
theorem InnC.hdw {w w' : World} {base top : Nat} {hs : List HC} {l : List (CL)} {hs' : List HC} {b' n c : Nat} {A : Option Addr} (h : InnC w base top hs l) (hO : Own hCV 2 w b' 57 A n c hs') (hg : w.grownBy w' (blockOf A)) : InnC w' base top hs l :=
  ⟨fun i k x h1 h2 => (h.w_ i k x h1 h2).grown hg ((h.w_ i k x h1 h2).ne_block hO (by decide)), fun i k x h1 h2 => (h.n_ i k x h1 h2).grown hg ((h.n_ i k x h1 h2).ne_block hO (by decide)), h.dw, h.dn, h.tw, h.tn⟩
theorem InnC.snoc {w w' : World} {base top : Nat} {hs : List HC} {l : List (CL)} {k top' : Nat} {h : HC} {x : CL} {bb0 bb1 : Nat} (hI : InnC w base top hs l) (hk : hs.length = k) (hx : l[k]? = some x) (hb : Below w.heap.size w w') (ht : top ≤ top') (o0 : Own stV 1 w' bb0 9 h.wA h.wn h.wc x.ws) (g0 : bb0 ≥ base) (m0 : bb0 ≥ w.heap.size) (z0 : ∀ k, blockOf h.wA = some k → k < top') (o1 : Own inV 1 w' bb1 3 h.nA h.nn h.nc x.ns) (g1 : bb1 ≥ base) (m1 : bb1 ≥ w.heap.size) (z1 : ∀ k, blockOf h.nA = some k → k < top') : InnC w' base top' (hs ++ [h]) l := by
  have hkl : k < l.length := (List.getElem?_eq_some_iff.1 hx).1
  have sp : ∀ (i : Nat) y, (hs ++ [h])[i]? = some y → (i < k ∧ hs[i]? = some y) ∨ (i = k ∧ y = h) := fun i y hy => by
    by_cases hi : i < k
    · rw [List.getElem?_append_left (by omega)] at hy; exact .inl ⟨hi, hy⟩
    · rw [List.getElem?_append_right (by omega)] at hy
      have h0 : i - hs.length = 0 := by
        have := (List.getElem?_eq_some_iff.1 hy).1
        simpa using this
      rw [h0] at hy
      exact .inr ⟨by omega, by simpa using hy.symm⟩
  refine ⟨?a0, ?a1, ?d0, ?d1, ?t0, ?t1⟩
  case a0 =>
    intro i y z hy hz
    rcases sp i y hy with ⟨_, h1⟩ | ⟨rfl, rfl⟩
    · exact (hI.w_ i y z h1 hz).below hb
    · rw [hx] at hz; injection hz with hz; subst hz; exact o0.base_le g0
  case a1 =>
    intro i y z hy hz
    rcases sp i y hy with ⟨_, h1⟩ | ⟨rfl, rfl⟩
    · exact (hI.n_ i y z h1 hz).below hb
    · rw [hx] at hz; injection hz with hz; subst hz; exact o1.base_le g1
  case d0 =>
    intro i q y z hne hy hz
    have old : ∀ (r : Nat) u, hs[r]? = some u → ∀ b, blockOf u.wA = some b → b < w.heap.size := fun r u hu b hbu => by
      have hr : r < l.length := by have := (List.getElem?_eq_some_iff.1 hu).1; omega
      exact ((hI.w_ r u _ hu (List.getElem?_eq_getElem hr)).lt hbu).2
    rcases sp i y hy with ⟨_, h1⟩ | ⟨e1, e2⟩
    · rcases sp q z hz with ⟨_, h2⟩ | ⟨e3, e4⟩
      · exact hI.dw i q y z hne h1 h2
      · subst e4
        cases hbk : blockOf y.wA with
        | none => exact .inl rfl
        | some b =>
          refine .inr fun e => ?_
          have a1 := old i y h1 b hbk
          have a2 := (o0.lt (k := b) e.symm).1
          omega
    · rcases sp q z hz with ⟨_, h2⟩ | ⟨e3, e4⟩
      · subst e2
        cases hbk : blockOf y.wA with
        | none => exact .inl rfl
        | some b =>
          refine .inr fun e => ?_
          have a1 := old q z h2 b e.symm
          have a2 := (o0.lt (k := b) hbk).1
          omega
      · omega
  case d1 =>
    intro i q y z hne hy hz
    have old : ∀ (r : Nat) u, hs[r]? = some u → ∀ b, blockOf u.nA = some b → b < w.heap.size := fun r u hu b hbu => by
      have hr : r < l.length := by have := (List.getElem?_eq_some_iff.1 hu).1; omega
      exact ((hI.n_ r u _ hu (List.getElem?_eq_getElem hr)).lt hbu).2
    rcases sp i y hy with ⟨_, h1⟩ | ⟨e1, e2⟩
    · rcases sp q z hz with ⟨_, h2⟩ | ⟨e3, e4⟩
      · exact hI.dn i q y z hne h1 h2
      · subst e4
        cases hbk : blockOf y.nA with
        | none => exact .inl rfl
        | some b =>
          refine .inr fun e => ?_
          have a1 := old i y h1 b hbk
          have a2 := (o1.lt (k := b) e.symm).1
          omega
    · rcases sp q z hz with ⟨_, h2⟩ | ⟨e3, e4⟩
      · subst e2
        cases hbk : blockOf y.nA with
        | none => exact .inl rfl
        | some b =>
          refine .inr fun e => ?_
          have a1 := old q z h2 b e.symm
          have a2 := (o1.lt (k := b) hbk).1
          omega
      · omega
  case t0 =>
    intro i y hy b hbk
    rcases sp i y hy with ⟨_, h1⟩ | ⟨_, rfl⟩
    · exact Nat.lt_of_lt_of_le (hI.tw i y h1 b hbk) ht
    · exact z0 b hbk
  case t1 =>
    intro i y hy b hbk
    rcases sp i y hy with ⟨_, h1⟩ | ⟨_, rfl⟩
    · exact Nat.lt_of_lt_of_le (hI.tn i y h1 b hbk) ht
    · exact z1 b hbk
theorem OwnC.below {w w' : World} {base top : Nat} {A : Option Addr} {n c : Nat} {hs : List HC} {l : List (CL)} (h : OwnC w base top A n c hs l) (hb : Below w.heap.size w w') : OwnC w' base top A n c hs l := ⟨h.hd.below hb, h.len, h.inn.below hb, h.th⟩
theorem OwnC.hlen {w : World} {base top : Nat} {A : Option Addr} {n c : Nat} {hs : List HC} {l : List (CL)} (h : OwnC w base top A n c hs l) : hs.length ≤ l.length := by rw [h.len, h.hd.len]; exact Nat.le_refl _
theorem OwnC.turned {w w' : World} {base top : Nat} {A : Option Addr} {n c : Nat} {hs : List HC} {l : List (CL)} {lo hi : Nat} (h : OwnC w base top A n c hs l) (ht : Turned w w' lo hi) (hn : hi ≤ base ∨ top ≤ lo) : OwnC w' base top A n c hs l :=
  ⟨h.hd.turned ht (fun b hb => by have a1 := (h.hd.lt hb).1; have a2 := h.th b hb; omega), h.len, h.inn.turned h.hlen ht hn, h.th⟩
theorem OwnC.base_le {w : World} {base top : Nat} {A : Option Addr} {n c : Nat} {hs : List HC} {l : List (CL)} {b0 : Nat} (h : OwnC w base top A n c hs l) (hb : b0 ≤ base) : OwnC w b0 top A n c hs l := ⟨h.hd.base_le hb, h.len, h.inn.base_le hb, h.th⟩
theorem OwnC.rd {w : World} {base top : Nat} {A : Option Addr} {n c : Nat} {hs : List HC} {l : List (CL)} (h : OwnC w base top A n c hs l) : RdC w A n c hs l := ⟨h.hd.rd hCV_len, h.len, fun i k x h1 h2 => (h.inn.w_ i k x h1 h2).rd stV_len, fun i k x h1 h2 => (h.inn.n_ i k x h1 h2).rd inV_len⟩
theorem OwnC.nil (w : World) (base top : Nat) : OwnC w base top none 0 0 [] [] := ⟨Own.nil _ _ _, rfl, InnC.nil _ _ _ _, fun k h => by simp [blockOf] at h⟩
/-- One element's row w is written. -/
theorem OwnC.put_w {w w' : World} {base top : Nat} {A : Option Addr} {n c : Nat} {hs : List HC} {l : List (CL)} {i : Nat} {h : HC} {x : CL} {y : List ByteArray} (hO : OwnC w base top A n c hs l) (hh : hs[i]? = some h) (hx : l[i]? = some x) (hg : w.grownBy w' (blockOf h.wA)) (ho : Own stV 1 w' base 9 h.wA h.wn h.wc y) :
    OwnC w' base top A n c hs (l.set i ({ x with ws := y } : CL)) ∧ Turned w w' base top := by
  have hil : i < l.length := (List.getElem?_eq_some_iff.1 hx).1
  have me := hO.inn.w_ i h x hh hx
  have T : Turned w w' base top := turned_of_grown hg (fun k hk => ⟨(me.lt hk).1, hO.inn.tw i h hh k hk⟩)
  refine ⟨⟨hO.hd.grown hg (hO.hd.ne_block me (by decide)), by simpa using hO.len, ⟨?a0, ?a1, hO.inn.dw, hO.inn.dn, hO.inn.tw, hO.inn.tn⟩, hO.th⟩, T⟩
  case a0 =>
    intro q k z hk hz
    by_cases e : q = i
    · subst e
      rw [hh] at hk
      injection hk with hk
      subst hk
      rw [List.getElem?_set_self hil] at hz
      injection hz with hz
      subst hz
      exact ho
    · rw [List.getElem?_set_ne (fun a => e a.symm)] at hz
      exact (hO.inn.w_ q k z hk hz).grown hg (hO.inn.dw q i k h e hk hh)
  case a1 =>
    intro q k z hk hz
    by_cases e : q = i
    · subst e
      rw [hh] at hk
      injection hk with hk
      subst hk
      rw [List.getElem?_set_self hil] at hz
      injection hz with hz
      subst hz
      exact (hO.inn.n_ q h x hh hx).grown hg ((hO.inn.n_ q h x hh hx).ne_block me (by decide))
    · rw [List.getElem?_set_ne (fun a => e a.symm)] at hz
      exact (hO.inn.n_ q k z hk hz).grown hg ((hO.inn.n_ q k z hk hz).ne_block me (by decide))
/-- One element's row n is written. -/
theorem OwnC.put_n {w w' : World} {base top : Nat} {A : Option Addr} {n c : Nat} {hs : List HC} {l : List (CL)} {i : Nat} {h : HC} {x : CL} {y : List Int} (hO : OwnC w base top A n c hs l) (hh : hs[i]? = some h) (hx : l[i]? = some x) (hg : w.grownBy w' (blockOf h.nA)) (ho : Own inV 1 w' base 3 h.nA h.nn h.nc y) :
    OwnC w' base top A n c hs (l.set i ({ x with ns := y } : CL)) ∧ Turned w w' base top := by
  have hil : i < l.length := (List.getElem?_eq_some_iff.1 hx).1
  have me := hO.inn.n_ i h x hh hx
  have T : Turned w w' base top := turned_of_grown hg (fun k hk => ⟨(me.lt hk).1, hO.inn.tn i h hh k hk⟩)
  refine ⟨⟨hO.hd.grown hg (hO.hd.ne_block me (by decide)), by simpa using hO.len, ⟨?a0, ?a1, hO.inn.dw, hO.inn.dn, hO.inn.tw, hO.inn.tn⟩, hO.th⟩, T⟩
  case a0 =>
    intro q k z hk hz
    by_cases e : q = i
    · subst e
      rw [hh] at hk
      injection hk with hk
      subst hk
      rw [List.getElem?_set_self hil] at hz
      injection hz with hz
      subst hz
      exact (hO.inn.w_ q h x hh hx).grown hg ((hO.inn.w_ q h x hh hx).ne_block me (by decide))
    · rw [List.getElem?_set_ne (fun a => e a.symm)] at hz
      exact (hO.inn.w_ q k z hk hz).grown hg ((hO.inn.w_ q k z hk hz).ne_block me (by decide))
  case a1 =>
    intro q k z hk hz
    by_cases e : q = i
    · subst e
      rw [hh] at hk
      injection hk with hk
      subst hk
      rw [List.getElem?_set_self hil] at hz
      injection hz with hz
      subst hz
      exact ho
    · rw [List.getElem?_set_ne (fun a => e a.symm)] at hz
      exact (hO.inn.n_ q k z hk hz).grown hg (hO.inn.dn q i k h e hk hh)
set_option maxRecDepth 100000 in
set_option maxHeartbeats 1000000 in
theorem eqClause_same (h k : HC) (x : CL) (w : World) (h0 : Rd stV 1 w h.wA h.wn h.wc x.ws) (k0 : Rd stV 1 w k.wA k.wn k.wc x.ws) (h1 : Rd inV 1 w h.nA h.nn h.nc x.ns) (k1 : Rd inV 1 w k.nA k.nn k.nc x.ns) :
    Calls Try.prog 40 #[.agg #[.slice h.wA h.wn h.wc, .slice h.nA h.nn h.nc], .agg #[.slice k.wA k.wn k.wc, .slice k.nA k.nn k.nc]] w fun e w' => e = .returned (.bool true) ∧ Below w.heap.size w w' := by
  obtain ⟨W, hW⟩ : ∃ W : World, W = (w.alloc (.cells #[.slice h.wA h.wn h.wc, .slice h.nA h.nn h.nc] 57)).alloc (.cells #[.slice k.wA k.wn k.wc, .slice k.nA k.nn k.nc] 57) := ⟨_, rfl⟩
  have t0 : Below w.heap.size w W := by rw [hW]; exact below_alloc2 _ _
  have qa := fun i => cell_of_row W w.heap.size i _ _ _ (by rw [hW]; exact heap_old (heap_new rfl))
  have qb := fun i => cell_of_row W (w.heap.size + 1) i _ _ _ (by rw [hW]; exact heap_new (by simp))
  have q1 := qa 1
  have q2 := qb 1
  clear qa qb
  go_enter Try.func40, Try.ntmps40
  go_wp2_with fail
  rw [← hW]
  clear hW
  refine (eqStringS_same _ _ _ _ _ _ _ _ (h0.below t0) (k0.below t0)).mono ?_
  rintro e w1 ⟨rfl, b1⟩
  have t1 := below_trans t0 b1
  replace q1 := cell_below b1 q1
  replace q2 := cell_below b1 q2
  change _ = some (Value.slice h.nA h.nn h.nc) at q1
  change _ = some (Value.slice k.nA k.nn k.nc) at q2
  go_wp2_with fail
  refine (eqIntS_same _ _ _ _ _ _ _ _ (h1.below t1) (k1.below t1)).mono ?_
  rintro e w2 ⟨rfl, b2⟩
  have t2 := below_trans t1 b2
  go_wp2
  go_ret
  exact ⟨rfl, t2⟩

set_option maxRecDepth 100000 in
set_option maxHeartbeats 1000000 in
theorem eqClauseS_same (A B : Option Addr) (n m c d : Nat) (hs ks : List HC) (l : List (CL)) (w : World) (ha : RdC w A n c hs l) (hb : RdC w B m d ks l) :
    Calls Try.prog 9 #[.slice A n c, .slice B m d] w fun e w' => e = .returned (.bool true) ∧ Below w.heap.size w w' := by
  have hm := ha.le
  obtain rfl : n = m := ha.len.symm.trans hb.len
  go_enter Try.func9, Try.ntmps9
  go_wp2
  go_loopw [5] (fun i wr => ∃ k : Nat, k ≤ n ∧ i = .int .i64 k ∧ Below w.heap.size w wr) (fun i _ => n - (intOf i).toNat)
  case atStart => exact ⟨0, Nat.zero_le _, rfl, Below.refl _ _⟩
  case round =>
    obtain ⟨k, hk, rfl, hbw⟩ := hrel
    by_cases hlt : k < n
    · obtain ⟨b1, o1, h, x, rfl, hx, -, c0, c1, x0, x1⟩ := (ha.below hbw).at hlt
      obtain ⟨b2, o2, h', x', rfl, hx', -, d0, d1, y0, y1⟩ := (hb.below hbw).at hlt
      obtain rfl : x = x' := by rw [hx] at hx'; injection hx'
      clear hx hx' ha hb
      have k0 := cell_regrown c0
      have q0 := cell_regrown d0
      have k1 := cell_regrown c1
      have q1 := cell_regrown d1
      go_wp2
      refine wp_region_quiet_below (by kernel_rfl) (by kernel_rfl) ?_
      repeat (go_big_quiet_step ((go_at_call 40; exact Calls.regrown_of (eqClause_same _ _ _ _ (x0.below (below_regrown _ _ _)) (y0.below (below_regrown _ _ _)) (x1.below (below_regrown _ _ _)) (y1.below (below_regrown _ _ _))))))
      refine wpQuiet_nil ?_
      intro _ hw'
      obtain ⟨⟨dq, osq⟩, hw''⟩ := hw'
      subst hw''
      go_wp2
      go_roundw
      case rel => exact ⟨k + 1, by omega, by go_num, below_grow hbw _ _⟩
      case measure => simp [intOf]; omega
    · go_wp2
      go_ret
      exact ⟨rfl, hbw⟩

/-- How many cells the elements hold. -/
def sizC (x : CL) : Nat := (x.ws).length + (x.ns).length
def totC (l : List (CL)) : Nat := (l.map sizC).sum
theorem totC_next {l : List (CL)} {k : Nat} {x : CL} (h : l[k]? = some x) : totC (l.take (k + 1)) = totC (l.take k) + sizC x := by
  unfold totC; rw [List.take_add_one, h]; simp
theorem totC_le (l : List (CL)) (k : Nat) : totC (l.take k) ≤ totC l := by
  have h : totC l = totC (l.take k) + totC (l.drop k) := by unfold totC; rw [← List.sum_append, ← List.map_append, List.take_append_drop]
  omega
theorem totC_mem {l : List (CL)} {k : Nat} {x : CL} (h : l[k]? = some x) : totC (l.take k) + sizC x ≤ totC l := by
  rw [← totC_next h]; exact totC_le _ _
/-- The marks of the element at a place. -/
def mkClauseS (k0 : Int) (l : List (CL)) (i : Nat) (x : CL) : CL := ⟨marksString (k0 + (totC (l.take i) : Int)) (x.ws).length, marksInt (k0 + (totC (l.take i) : Int) + ((x.ws).length : Int)) (x.ns).length⟩
def marksClauseS (k0 : Int) (l : List (CL)) : List (CL) := l.mapIdx (mkClauseS k0 l)
theorem marksClauseS_get {k0 : Int} {l : List (CL)} {i : Nat} {x : CL} (h : l[i]? = some x) : (marksClauseS k0 l)[i]? = some (mkClauseS k0 l i x) := by unfold marksClauseS; rw [List.getElem?_mapIdx, h]; rfl
theorem marksClauseS_len (k0 : Int) (l : List (CL)) : (marksClauseS k0 l).length = l.length := by simp [marksClauseS]
set_option maxRecDepth 100000 in
set_option maxHeartbeats 1000000 in
theorem markClauseS_any (A : Option Addr) (n c base top : Nat) (hs : List HC) (l : List (CL)) (k0 : Int) (w : World) (ha : OwnC w base top A n c hs l) (h0 : 1 ≤ k0) (h1 : k0 ≤ 100000000) (hn : n ≤ 4194304) (hq : totC l ≤ 4194304) (hsz : base ≤ w.heap.size) :
    Calls Try.prog 10 #[.slice A n c, .int .i64 k0] w fun e w' => e = .returned (.int .i64 (k0 + (totC l : Int))) ∧ OwnC w' base top A n c hs (marksClauseS k0 l) ∧ Turned w w' base top := by
  have hm := ha.rd.le
  have HL := Lib.hid ha.len
  have HN := Lib.hid ha.hd.len
  go_enter Try.func10, Try.ntmps10
  go_wp2
  go_loopw [1, 5] (fun kv i wr => ∃ k : Nat, k ≤ n ∧ i = .int .i64 k ∧ kv = .int .i64 (k0 + (totC (l.take k) : Int)) ∧ Turned w wr base top ∧ ∃ l', OwnC wr base top A n c hs l' ∧ (∀ j, j < k → l'[j]? = (marksClauseS k0 l)[j]?) ∧ (∀ j, k ≤ j → l'[j]? = l[j]?)) (fun _ i _ => n - (intOf i).toNat)
  case atStart => exact ⟨0, Nat.zero_le _, rfl, by simp [totC], Turned.refl _ _ _, l, ha, (fun j hj => absurd hj (by omega)), (fun j _ => rfl)⟩
  case round =>
    clear ha
    obtain ⟨k, hk, rfl, rfl, hT, l', ho, hup, hdn⟩ := hrel
    have hsr := hT.size
    by_cases hlt : k < n
    · obtain ⟨b1, o1, h, x, rfl, hx, hh, c0, c1, x0, x1⟩ := ho.rd.at hlt
      have hlx : l[k]? = some x := by rw [← hdn k (Nat.le_refl _)]; exact hx
      have hml := totC_mem hlx
      have NX := Lib.hid (totC_next hlx)
      have HU := Lib.hid hup
      have HD := Lib.hid hdn
      have HX := Lib.hid hx
      have HLX := Lib.hid hlx
      have HH := Lib.hid hh
      have MG := Lib.hid (marksClauseS_get (k0 := k0) hlx)
      clear hup hdn hx hlx hh x0 x1
      simp only [sizC] at hml

      have r0 := ho.inn.w_ k h _ HH.out HX.out
      have ln0 : (x.ws).length = h.wn := r0.len
      have L0 := Lib.hid ln0
      have lb0 : h.wn ≤ (x.ws).length := by rw [ln0]; exact Nat.le_refl _
      have lc0 : (x.ws).length ≤ h.wn := by rw [ln0]; exact Nat.le_refl _
      clear ln0
      have CU := Lib.hid ho
      clear ho
      have R0 := Lib.hid r0
      clear r0
      go_wp2_with fail
      refine (markStringS_any _ _ _ base _ _ _ _ R0.out (by omega) (by omega) (by omega) (by omega)).mono ?_
      rintro e v0 ⟨rfl, ro0, rg0⟩
      obtain ⟨oq0, tq0⟩ := CU.out.put_w HH.out HX.out rg0 ro0
      have s0 := tq0.size
      have T0 := Turned.trans hT tq0
      have hkl0 := (List.getElem?_eq_some_iff.1 HX.out).1
      obtain ⟨b0', o0', h0', x0', e0', hx0', hh0', f0_0, f0_1, -, -⟩ := oq0.rd.at hlt
      injection e0' with e0'
      injection e0' with e0a e0b
      subst e0a e0b
      rw [HH.out] at hh0'
      injection hh0' with hh0'
      subst hh0'
      have HX0 := Lib.hid hx0'
      clear hx0' hkl0
      have XE := HX0.out
      rw [List.getElem?_set_self (List.getElem?_eq_some_iff.1 HX.out).1] at XE
      injection XE with XE
      subst XE
      have OQ0 := Lib.hid oq0
      have r1 := oq0.inn.n_ k h _ HH.out HX0.out
      have ln1 : (x.ns).length = h.nn := r1.len
      have L1 := Lib.hid ln1
      have lb1 : h.nn ≤ (x.ns).length := by rw [ln1]; exact Nat.le_refl _
      have lc1 : (x.ns).length ≤ h.nn := by rw [ln1]; exact Nat.le_refl _
      clear ln1
      have R1 := Lib.hid r1
      clear r1 oq0
      go_wp2_with fail
      refine (markIntS_any _ _ _ base _ _ _ _ R1.out (by omega) (by omega) (by omega) (by omega)).mono ?_
      rintro e v1 ⟨rfl, ro1, rg1⟩
      obtain ⟨oq1, tq1⟩ := OQ0.out.put_n HH.out HX0.out rg1 ro1
      have s1 := tq1.size
      have T1 := Turned.trans T0 tq1
      have HO : Hid (∃ l2, OwnC v1 base top (some ⟨b1, o1, none⟩) n c hs l2 ∧ (∀ j, j < k + 1 → l2[j]? = (marksClauseS k0 l)[j]?) ∧ (∀ j, k + 1 ≤ j → l2[j]? = l[j]?)) := by
        refine ⟨_, oq1, fun j hj => ?_, fun j hj => ?_⟩
        · by_cases e : j = k
          · subst e
            rw [MG.out]
            have hkl := (List.getElem?_eq_some_iff.1 HX.out).1
            simp [mkClauseS, hkl, L0.out, L1.out]
          · have h9 := HU.out j (by omega)
            rw [← h9]
            simp [List.getElem?_set_ne (fun a => e a.symm)]
        · have h9 := HD.out j (by omega)
          rw [← h9]
          simp [List.getElem?_set_ne (show k ≠ j by omega)]
      have TT := Lib.hid T1
      have KE : Hid (k0 + (totC (l.take k) : Int) + (h.wn : Int) + (h.nn : Int) = k0 + (totC (l.take (k + 1)) : Int)) := by
        show _ = _
        rw [NX.out]; simp only [sizC]; have := L0.out; have := L1.out; push_cast; omega
      clear oq1 tq0 tq1 T0 T1
      go_wp2
      go_roundw
      case rel => exact ⟨k + 1, by omega, by go_num, by first | (rw [← KE.out]; done) | (rw [← KE.out]; go_num), TT.out, HO.out⟩
      case measure => simp [intOf]; omega
    · obtain rfl : k = n := by omega
      have e : l' = marksClauseS k0 l := List.ext_getElem? fun j => by
        by_cases hj : j < k
        · exact hup j hj
        · rw [List.getElem?_eq_none (by rw [ho.len]; omega), List.getElem?_eq_none (by rw [marksClauseS_len, HL.out]; omega)]
      subst e
      have E := Lib.hid (show l.take k = l by rw [List.take_of_length_le (by rw [HL.out]; exact Nat.le_refl _)])
      have HO := Lib.hid ho
      clear hup hdn ho
      go_wp2
      go_ret
      exact ⟨ret_int (by rw [E.out]), HO.out, hT⟩

set_option maxRecDepth 100000 in
set_option maxHeartbeats 1000000 in
theorem heldClauseS_any (A : Option Addr) (n c : Nat) (hs : List HC) (l : List (CL)) (k0 : Int) (w : World) (ha : RdC w A n c hs (marksClauseS k0 l)) (h0 : 1 ≤ k0) (h1 : k0 ≤ 100000000) (hn : n ≤ 4194304) (hq : totC l ≤ 4194304) :
    Calls Try.prog 11 #[.slice A n c, .int .i64 k0] w fun e w' => e = .returned (.int .i64 (k0 + (totC l : Int))) ∧ Below w.heap.size w w' := by
  have hm := ha.le
  have HL := Lib.hid (show l.length = n by rw [← marksClauseS_len k0 l]; exact ha.len)
  go_enter Try.func11, Try.ntmps11
  go_wp2
  go_loopw [1, 5] (fun kv i wr => ∃ k : Nat, k ≤ n ∧ i = .int .i64 k ∧ kv = .int .i64 (k0 + (totC (l.take k) : Int)) ∧ Below w.heap.size w wr) (fun _ i _ => n - (intOf i).toNat)
  case atStart => exact ⟨0, Nat.zero_le _, rfl, by simp [totC], Below.refl _ _⟩
  case round =>
    obtain ⟨k, hk, rfl, rfl, hbw⟩ := hrel
    by_cases hlt : k < n
    · obtain ⟨b1, o1, h, y, rfl, hy, hh, c0, c1, x0, x1⟩ := (ha.below hbw).at hlt
      obtain ⟨x, hx⟩ : ∃ x, l[k]? = some x := ⟨_, List.getElem?_eq_getElem (by rw [HL.out]; exact hlt)⟩
      rw [marksClauseS_get hx] at hy
      injection hy with hy
      subst hy
      have hml := totC_mem hx
      have NX := Lib.hid (totC_next hx)
      clear hx hh ha
      simp only [sizC, mkClauseS] at hml x0 x1

      have ln0 : h.wn = (x.ws).length := by rw [← x0.len, marksString_len]
      have L0 := Lib.hid ln0
      have lb0 : h.wn ≤ (x.ws).length := by rw [ln0]; exact Nat.le_refl _
      have lc0 : (x.ws).length ≤ h.wn := by rw [ln0]; exact Nat.le_refl _
      clear ln0
      have ln1 : h.nn = (x.ns).length := by rw [← x1.len, marksInt_len]
      have L1 := Lib.hid ln1
      have lb1 : h.nn ≤ (x.ns).length := by rw [ln1]; exact Nat.le_refl _
      have lc1 : (x.ns).length ≤ h.nn := by rw [ln1]; exact Nat.le_refl _
      clear ln1
      have X0 : Hid (Rd stV 1 wr h.wA h.wn h.wc (marksString (k0 + (totC (l.take k) : Int)) h.wn)) := by
        show Rd _ _ _ _ _ _ _
        have h5 := x0
        simp only [← L0.out] at h5
        exact h5
      have X1 : Hid (Rd inV 1 wr h.nA h.nn h.nc (marksInt (k0 + (totC (l.take k) : Int) + (h.wn : Int)) h.nn)) := by
        show Rd _ _ _ _ _ _ _
        have h5 := x1
        simp only [← L0.out, ← L1.out] at h5
        exact h5
      clear x0 x1
      go_wp2_with fail
      refine (heldStringS_any _ _ _ _ _ X0.out (by omega) (by omega) (by omega)).mono ?_
      rintro e v0 ⟨rfl, b0⟩
      have u0 := b0
      replace c1 := cell_below b0 c1
      go_wp2_with fail
      refine (heldIntS_any _ _ _ _ _ (X1.out.below u0) (by omega) (by omega) (by omega)).mono ?_
      rintro e v1 ⟨rfl, b1⟩
      have u1 := below_trans u0 b1
      have KE : Hid (k0 + (totC (l.take k) : Int) + (h.wn : Int) + (h.nn : Int) = k0 + (totC (l.take (k + 1)) : Int)) := by
        show _ = _
        rw [NX.out]; simp only [sizC]; have := L0.out; have := L1.out; push_cast; omega
      go_wp2
      go_roundw
      case rel => exact ⟨k + 1, by omega, by go_num, by first | (rw [← KE.out]; done) | (rw [← KE.out]; go_num), below_trans hbw u1⟩
      case measure => simp [intOf]; omega
    · obtain rfl : k = n := by omega
      have E := Lib.hid (show l.take k = l by rw [List.take_of_length_le (by rw [HL.out]; exact Nat.le_refl _)])
      clear ha
      go_wp2
      go_ret
      exact ⟨ret_int (by rw [E.out]), hbw⟩

theorem Try.infoCl : (Try.prog.info? 57).map (fun i => (i.zero, i.size, i.bytes)) = some (some (.agg #[.slice none 0 0, .slice none 0 0]), 2, 48) := by kernel_rfl
set_option maxRecDepth 100000 in
set_option maxHeartbeats 1000000 in
theorem toClause_any (h : HC) (x : CL) (w : World) (h0 : Rd stV 1 w h.wA h.wn h.wc x.ws) (h1 : Rd inV 1 w h.nA h.nn h.nc x.ns) (m0 : h.wn ≤ 1048576) (m1 : h.nn ≤ 1048576) :
    Calls Try.prog 35 #[.agg #[.slice h.wA h.wn h.wc, .slice h.nA h.nn h.nc]] w fun e w' => ∃ k : HC, e = .returned (.agg #[.slice k.wA k.wn k.wc, .slice k.nA k.nn k.nc]) ∧ Below w.heap.size w w' ∧ ∃ b0 b1, b0 ≥ w.heap.size ∧ b1 ≥ w.heap.size ∧ Own stV 1 w' b0 9 k.wA k.wn k.wc x.ws ∧ Own inV 1 w' b1 3 k.nA k.nn k.nc x.ns := by
  obtain ⟨W, hW⟩ : ∃ W : World, W = ((w.alloc (.cells #[.slice h.wA h.wn h.wc, .slice h.nA h.nn h.nc] 55)).alloc (.cells #[.slice none 0 0, .slice none 0 0] 57)).alloc (.cells #[.slice none 0 0, .slice none 0 0] 57) := ⟨_, rfl⟩
  have t0 : Below w.heap.size w W := by rw [hW]; exact below_alloc3 _ _ _
  have ha1 : W.heap[w.heap.size]? = some (.cells #[.slice h.wA h.wn h.wc, .slice h.nA h.nn h.nc] 55 (0, 0)) := by rw [hW]; exact heap_old (heap_old (heap_new rfl))
  have q0 := cell_of_row W w.heap.size 1 _ _ _ ha1
  have oA : Own hCV 2 W w.heap.size 57 (some ⟨w.heap.size + 1, 0, none⟩) 1 1 [⟨none, 0, 0, none, 0, 0⟩] := ⟨rfl, by simp [hCV], .inr ⟨w.heap.size + 1, 1, _, rfl, by omega, by rw [hW]; exact heap_old (heap_new (by simp)), by omega, by simp [maxLen], by simp, by simp [hCV]⟩⟩
  have oB : Own hCV 2 W w.heap.size 57 (some ⟨w.heap.size + 1 + 1, 0, none⟩) 1 1 [⟨none, 0, 0, none, 0, 0⟩] := ⟨rfl, by simp [hCV], .inr ⟨w.heap.size + 1 + 1, 1, _, rfl, by omega, by rw [hW]; exact heap_new (by simp), by omega, by simp [maxLen], by simp, by simp [hCV]⟩⟩
  have hs0 : w.heap.size + 3 ≤ W.heap.size := by rw [hW]; simp
  go_enter Try.func35, Try.ntmps35
  go_wp2_with fail
  rw [← hW]
  clear hW ha1
  refine (toStringS_any _ _ _ _ _ (h0.below t0) m0).mono ?_
  rintro e w1 ⟨B0, d0, rfl, o0, b1⟩
  have t1 := below_trans t0 b1
  replace oA := oA.below b1
  replace oB := oB.below b1
  replace q0 := cell_below b1 q0
  change _ = some (Value.slice h.nA h.nn h.nc) at q0
  have hs1 := b1.size
  have cB := oB.cell hCV_len (i := 0) (j := 0) (x := ⟨none, 0, 0, none, 0, 0⟩) rfl rfl
  have fB := oB.frozen 0
  simp only [Nat.zero_mul, Nat.add_zero] at cB
  have ST := oB.store hCV_len (i := 0) (j := 0) (x := ⟨none, 0, 0, none, 0, 0⟩) rfl (by omega) ⟨B0, h.wn, d0, none, 0, 0⟩ (.slice B0 h.wn d0) rfl
  simp only [Nat.zero_mul, Nat.add_zero, List.set_cons_zero] at ST
  have o0n : blockOf B0 = none ∨ blockOf B0 ≠ some (w.heap.size + 1 + 1) := by
    cases hb : blockOf B0 with
    | none => exact .inl rfl
    | some k => exact .inr (fun e => by injection e with e; have := (o0.lt hb).1; omega)
  have o0m : blockOf B0 = none ∨ blockOf B0 ≠ some (w.heap.size + 1) := by
    cases hb : blockOf B0 with
    | none => exact .inl rfl
    | some k => exact .inr (fun e => by injection e with e; have := (o0.lt hb).1; omega)
  have hq1 : w1.cell? ⟨w.heap.size, 1, none⟩ = (w1.setCell ⟨w.heap.size + 1 + 1, 0, none⟩ (.slice B0 h.wn d0)).cell? ⟨w.heap.size, 1, none⟩ := by
    have := (ST.2.block w.heap.size (by omega) (by simp; omega)); exact (World.cell?_of_block (a := ⟨w.heap.size, 1, none⟩) this).symm
  have t1' : Below w.heap.size w (w1.setCell ⟨w.heap.size + 1 + 1, 0, none⟩ (.slice B0 h.wn d0)) := below_setCell t1 _ _ _ (by omega)
  have o0' := o0.grown ST.2 o0n
  have oA' := oA.grown ST.2 (.inr (by simp [blockOf]))
  have q0' := q0
  rw [hq1] at q0'
  clear hq1 oA o0
  have STH := Lib.hid ST
  clear ST oB
  go_wp2_with fail
  generalize hv1 : w1.setCell ⟨w.heap.size + 1 + 1, 0, none⟩ (.slice B0 h.wn d0) = v1 at *
  have hsv : w1.heap.size ≤ v1.heap.size := STH.out.2.size
  clear hv1 cB fB q0
  refine (toIntS_any _ _ _ _ _ (h1.below t1') m1).mono ?_
  rintro e w2 ⟨B1, d1, rfl, o1, b2⟩
  have t2 := below_trans t1' b2
  have oA2 := oA'.below b2
  have oB2 := STH.out.1.below b2
  have o02 := o0'.below b2
  have hs2 := b2.size
  have o1n : blockOf B1 = none ∨ blockOf B1 ≠ some (w.heap.size + 1 + 1) := by
    cases hb : blockOf B1 with
    | none => exact .inl rfl
    | some k => exact .inr (fun e => by injection e with e; have := (o1.lt hb).1; omega)
  have o1m : blockOf B1 = none ∨ blockOf B1 ≠ some (w.heap.size + 1) := by
    cases hb : blockOf B1 with
    | none => exact .inl rfl
    | some k => exact .inr (fun e => by injection e with e; have := (o1.lt hb).1; omega)
  have c20 := oB2.cell hCV_len (i := 0) (j := 0) rfl rfl
  have c21 := oB2.cell hCV_len (i := 0) (j := 1) rfl rfl
  have f21 := oB2.frozen 1
  have a20 := oA2.cell hCV_len (i := 0) (j := 0) rfl rfl
  have a21 := oA2.cell hCV_len (i := 0) (j := 1) rfl rfl
  have fa0 := oA2.frozen 0
  have fa1 := oA2.frozen 1
  simp only [Nat.zero_mul, Nat.add_zero, Nat.zero_add] at c20 c21 a20 a21
  have S1 := oB2.store hCV_len (i := 0) (j := 1) rfl (by omega) ⟨B0, h.wn, d0, B1, h.nn, d1⟩ (.slice B1 h.nn d1) rfl
  simp only [Nat.zero_mul, Nat.zero_add] at S1
  have oA3 := oA2.grown S1.2 (.inr (by simp [blockOf]))
  have S2 := oA3.puts hCV_len 0 ⟨B0, h.wn, d0, B1, h.nn, d1⟩ (by omega)
  simp only [putCells, hCV, Nat.zero_mul, Nat.zero_add] at S2
  have F0 := Lib.hid ((o02.grown S1.2 o0n).grown S2.2 o0m)
  have F1 := Lib.hid ((o1.grown S1.2 o1n).grown S2.2 o1m)
  have FB := Lib.hid (below_setCell (below_setCell (below_setCell t2 (w.heap.size + 1 + 1) 1 (.slice B1 h.nn d1) (by omega)) (w.heap.size + 1) 0 (.slice B0 h.wn d0) (by omega)) (w.heap.size + 1) 1 (.slice B1 h.nn d1) (by omega))
  have E0 := Lib.hid ((oA3.store hCV_len (i := 0) (j := 0) rfl (by omega) ⟨B0, h.wn, d0, none, 0, 0⟩ (.slice B0 h.wn d0) rfl).1.cell hCV_len (i := 0) (j := 0) rfl rfl)
  have E1 := Lib.hid (S2.1.cell hCV_len (i := 0) (j := 1) rfl rfl)
  clear S1 S2 oA3 oB2 oA2 STH
  have hle1 : w.heap.size ≤ W.heap.size := by omega
  have hle2 : w.heap.size ≤ v1.heap.size := by omega
  go_wp2
  have e0 := E0.out
  have e1 := E1.out
  simp only [Nat.zero_mul, Nat.zero_add, Nat.add_zero] at e0 e1
  exact bodyPost_ret (v := .agg #[.slice B0 h.wn d0, .slice B1 h.nn d1]) (by simp [results, Try.results35, go_sem, e0, e1]) rfl ⟨⟨B0, h.wn, d0, B1, h.nn, d1⟩, rfl, FB.out, W.heap.size, v1.heap.size, hle1, hle2, F0.out, F1.out⟩

set_option maxRecDepth 100000 in
set_option maxHeartbeats 1000000 in
theorem toClauseS_any (A : Option Addr) (n c : Nat) (hs0 : List HC) (l : List CL) (w : World) (ha : RdC w A n c hs0 l) (hn : n ≤ 1048576) (hin : ∀ x ∈ l, x.ws.length ≤ 1048576 ∧ x.ns.length ≤ 1048576) :
    Calls Try.prog 7 #[.slice A n c] w fun e w' => ∃ B d hs, e = .returned (.slice B n d) ∧ OwnC w' w.heap.size w'.heap.size B n d hs l ∧ Below w.heap.size w w' := by
  obtain ⟨i0, hi, hz0, hz1, hz2⟩ := info_parts Try.infoCl
  have HL := Lib.hid ha.len
  go_enter Try.func7, Try.ntmps7
  go_wp2_with (at_make; refine wpList_make_full _ rfl _ _ _ rfl w.heap.size 57 i0 (.agg #[.slice none 0 0, .slice none 0 0]) 2 Try.underlying24 hi hz0 hz1 .i64 .i64 _ _ n rfl rfl rfl rfl (by rw [hz2]; omega) (by simp only [maxLen]; omega) (Nat.le_refl _) ?_; intro w1 hown hg1)
  have ho : Own hCV 2 w1 w.heap.size 57 (some ⟨w.heap.size, 0, none⟩) n n (List.replicate n HC0) := ⟨by simp, by rw [← made_flat (z := (Value.cells (.agg #[.slice none 0 0, .slice none 0 0]))) hCV_len (by omega) HC0 rfl]; exact hown⟩
  have hb1 : Below w.heap.size w w1 := below_of_grown hg1 (Nat.le_refl _) (fun k hk => by cases hk)
  clear hown hg1
  go_loopw [4] (fun i wr => ∃ k : Nat, k ≤ n ∧ i = .int .i64 k ∧ (∃ hs : List HC, hs.length = k ∧ Own hCV 2 wr w.heap.size 57 (some ⟨w.heap.size, 0, none⟩) n n (hs ++ List.replicate (n - k) HC0) ∧ InnC wr w.heap.size wr.heap.size hs l) ∧ Below w.heap.size w wr) (fun i _ => n - (intOf i).toNat)
  case atStart => exact ⟨0, Nat.zero_le _, rfl, ⟨[], rfl, by simpa using ho, InnC.nil _ _ _ _⟩, hb1⟩
  case round =>
    clear ho hb1
    obtain ⟨k, hk, rfl, ⟨hs, hl, ho, hI⟩, hbw⟩ := hrel
    have LK := Lib.hid hl
    clear hl
    by_cases hlt : k < n
    · obtain ⟨b1, o1, h, x, rfl, hx, -, c0, c1, x0, x1⟩ := (ha.below hbw).at hlt
      have hb := hin x (List.mem_of_getElem? hx)
      have l0 : h.wn ≤ 1048576 := by rw [← x0.len]; exact hb.1
      have l1 : h.nn ≤ 1048576 := by rw [← x1.len]; exact hb.2
      have HX := Lib.hid hx
      have HI := Lib.hid hI
      have HO := Lib.hid ho
      have hsz := hbw.size
      clear hx ha hin hb hI ho
      go_wp2_with fail
      refine (toClause_any h x _ x0 x1 l0 l1).mono ?_
      rintro e w2 ⟨kk, rfl, b2, q0, q1, g0, g1, p0, p1⟩
      have ho2 := HO.out.below b2
      have hz := app_rep_get hs HC0 k n LK.out hlt
      have a0 := ho2.cell hCV_len (j := 0) hz rfl
      have a1 := ho2.cell hCV_len (j := 1) hz rfl
      have f0 := ho2.frozen (k * 2 + 0)
      have f1 := ho2.frozen (k * 2 + 1)
      simp only [Nat.add_zero] at a0 f0
      have PU := Lib.hid (ho2.puts hCV_len k kk hlt)
      have n0 := ho2.ne_block p0 (by decide)
      have n1 := ho2.ne_block p1 (by decide)
      have HN := Lib.hid (HI.out.snoc (top' := w2.heap.size) LK.out HX.out b2 b2.size (bb0 := q0) (bb1 := q1) p0 (by omega) g0 (blk_lt p0) p1 (by omega) g1 (blk_lt p1))
      have hs2 := b2.size
      have hlt2 : w.heap.size < w2.heap.size := by have := (ho2.lt (k := w.heap.size) rfl).2; exact this
      have HO2 := Lib.hid ho2
      clear hz ho2 n0 n1 p0 p1 x0 x1
      go_wp2
      have G := PU.out.2
      have O2 := PU.out.1
      simp only [putCells, hCV] at G O2
      go_roundw
      case rel => exact ⟨k + 1, by omega, by go_num, ⟨hs ++ [kk], by rw [List.length_append, LK.out]; rfl, by rw [← app_set_replicate hs HC0 kk k n LK.out hlt]; exact O2, (HN.out.hdw HO2.out G).top_le G.size⟩, below_setCell (below_setCell (below_trans hbw b2) _ _ _ (Nat.le_refl _)) _ _ _ (Nat.le_refl _)⟩
      case measure => simp [intOf]; omega
    · obtain rfl : k = n := by omega
      have HO := Lib.hid ho
      have HI := Lib.hid hI
      clear ha ho hI
      go_wp2
      go_ret
      exact ⟨_, _, hs, rfl, ⟨by have h9 := HO.out; simpa using h9, HL.out, HI.out, fun b hb => (HO.out.lt hb).2⟩, hbw⟩

/-- The header of an element. -/
structure HI where
  pA : Option Addr
  pn : Nat
  pc : Nat
def hIV (h : HI) : List Value := [.slice h.pA h.pn h.pc]
theorem hIV_len (h : HI) : (hIV h).length = 1 := rfl
def HI0 : HI := ⟨none, 0, 0⟩
/-- A slice value that reads as the list l; hs: its elements' headers. -/
structure RdI (w : World) (A : Option Addr) (n c : Nat) (hs : List HI) (l : List (List Int)) : Prop where
  hd : Rd hIV 1 w A n c hs
  len : l.length = n
  p_ : ∀ (i : Nat) h x, hs[i]? = some h → l[i]? = some x → Rd inV 1 w h.pA h.pn h.pc x
theorem RdI.below {w w' : World} {A : Option Addr} {n c : Nat} {hs : List HI} {l : List (List Int)} (h : RdI w A n c hs l) (hb : Below w.heap.size w w') : RdI w' A n c hs l :=
  ⟨h.hd.below hb, h.len, fun i k x h1 h2 => (h.p_ i k x h1 h2).below hb⟩
theorem RdI.le {w : World} {A : Option Addr} {n c : Nat} {hs : List HI} {l : List (List Int)} (h : RdI w A n c hs l) : n ≤ 9223372036854775807 := h.hd.le
theorem RdI.at {w : World} {A : Option Addr} {n c : Nat} {hs : List HI} {l : List (List Int)} (h : RdI w A n c hs l) {i : Nat} (hi : i < n) :
    ∃ b off k x, A = some ⟨b, off, none⟩ ∧ l[i]? = some x ∧ hs[i]? = some k ∧ w.cell? ⟨b, off + i, none⟩ = some (.slice k.pA k.pn k.pc) ∧ Rd inV 1 w k.pA k.pn k.pc x := by
  obtain ⟨b, off, e, hc⟩ := h.hd.at_ (by omega)
  have hl : i < l.length := by have := h.len; omega
  have hh : i < hs.length := by have := h.hd.len; omega
  exact ⟨b, off, hs[i], l[i], e, List.getElem?_eq_getElem hl, List.getElem?_eq_getElem hh, by simpa using hc i _ (List.getElem?_eq_getElem hh) 0 _ rfl, h.p_ i _ _ (List.getElem?_eq_getElem hh) (List.getElem?_eq_getElem hl)⟩

/-- The rows of the elements, all of the call's own, each in a block of its own; below top. -/
structure InnI (w : World) (base top : Nat) (hs : List HI) (l : List (List Int)) : Prop where
  p_ : ∀ (i : Nat) h x, hs[i]? = some h → l[i]? = some x → Own inV 1 w base 3 h.pA h.pn h.pc x
  dp : ∀ (i j : Nat) h k, i ≠ j → hs[i]? = some h → hs[j]? = some k → blockOf h.pA = none ∨ blockOf h.pA ≠ blockOf k.pA
  tp : ∀ (i : Nat) h, hs[i]? = some h → ∀ k, blockOf h.pA = some k → k < top
/-- A slice of the call's own with all its elements' rows. -/
structure OwnI (w : World) (base top : Nat) (A : Option Addr) (n c : Nat) (hs : List HI) (l : List (List Int)) : Prop where
  hd : Own hIV 1 w base 38 A n c hs
  len : l.length = n
  inn : InnI w base top hs l
  th : ∀ k, blockOf A = some k → k < top
theorem InnI.nil (w : World) (base top : Nat) (l : List (List Int)) : InnI w base top [] l := ⟨fun i h x h1 => by simp at h1, fun i j h k _ h1 => by simp at h1, fun i h h1 => by simp at h1⟩
theorem InnI.below {w w' : World} {base top : Nat} {hs : List HI} {l : List (List Int)} (h : InnI w base top hs l) (hb : Below w.heap.size w w') : InnI w' base top hs l :=
  ⟨fun i k x h1 h2 => (h.p_ i k x h1 h2).below hb, h.dp, h.tp⟩
theorem InnI.top_le {w : World} {base top : Nat} {hs : List HI} {l : List (List Int)} {top' : Nat} (h : InnI w base top hs l) (ht : top ≤ top') : InnI w base top' hs l :=
  ⟨h.p_, h.dp, fun i k h1 b hb => Nat.lt_of_lt_of_le (h.tp i k h1 b hb) ht⟩
theorem InnI.base_le {w : World} {base top : Nat} {hs : List HI} {l : List (List Int)} {b0 : Nat} (h : InnI w base top hs l) (hb : b0 ≤ base) : InnI w b0 top hs l :=
  ⟨fun i k x h1 h2 => (h.p_ i k x h1 h2).base_le hb, h.dp, h.tp⟩
theorem InnI.turned {w w' : World} {base top : Nat} {hs : List HI} {l : List (List Int)} {lo hi : Nat} (h : InnI w base top hs l) (hlen : hs.length ≤ l.length) (ht : Turned w w' lo hi) (hn : hi ≤ base ∨ top ≤ lo) : InnI w' base top hs l :=
  ⟨fun i k x h1 h2 => (h.p_ i k x h1 h2).turned ht (fun b hb => by have a1 := ((h.p_ i k x h1 h2).lt hb).1; have a2 := h.tp i k h1 b hb; omega), h.dp, h.tp⟩
theorem InnI.hdw {w w' : World} {base top : Nat} {hs : List HI} {l : List (List Int)} {hs' : List HI} {b' n c : Nat} {A : Option Addr} (h : InnI w base top hs l) (hO : Own hIV 1 w b' 38 A n c hs') (hg : w.grownBy w' (blockOf A)) : InnI w' base top hs l :=
  ⟨fun i k x h1 h2 => (h.p_ i k x h1 h2).grown hg ((h.p_ i k x h1 h2).ne_block hO (by decide)), h.dp, h.tp⟩
theorem InnI.snoc {w w' : World} {base top : Nat} {hs : List HI} {l : List (List Int)} {k top' : Nat} {h : HI} {x : List Int} {bb0 : Nat} (hI : InnI w base top hs l) (hk : hs.length = k) (hx : l[k]? = some x) (hb : Below w.heap.size w w') (ht : top ≤ top') (o0 : Own inV 1 w' bb0 3 h.pA h.pn h.pc x) (g0 : bb0 ≥ base) (m0 : bb0 ≥ w.heap.size) (z0 : ∀ k, blockOf h.pA = some k → k < top') : InnI w' base top' (hs ++ [h]) l := by
  have hkl : k < l.length := (List.getElem?_eq_some_iff.1 hx).1
  have sp : ∀ (i : Nat) y, (hs ++ [h])[i]? = some y → (i < k ∧ hs[i]? = some y) ∨ (i = k ∧ y = h) := fun i y hy => by
    by_cases hi : i < k
    · rw [List.getElem?_append_left (by omega)] at hy; exact .inl ⟨hi, hy⟩
    · rw [List.getElem?_append_right (by omega)] at hy
      have h0 : i - hs.length = 0 := by
        have := (List.getElem?_eq_some_iff.1 hy).1
        simpa using this
      rw [h0] at hy
      exact .inr ⟨by omega, by simpa using hy.symm⟩
  refine ⟨?a0, ?d0, ?t0⟩
  case a0 =>
    intro i y z hy hz
    rcases sp i y hy with ⟨_, h1⟩ | ⟨rfl, rfl⟩
    · exact (hI.p_ i y z h1 hz).below hb
    · rw [hx] at hz; injection hz with hz; subst hz; exact o0.base_le g0
  case d0 =>
    intro i q y z hne hy hz
    have old : ∀ (r : Nat) u, hs[r]? = some u → ∀ b, blockOf u.pA = some b → b < w.heap.size := fun r u hu b hbu => by
      have hr : r < l.length := by have := (List.getElem?_eq_some_iff.1 hu).1; omega
      exact ((hI.p_ r u _ hu (List.getElem?_eq_getElem hr)).lt hbu).2
    rcases sp i y hy with ⟨_, h1⟩ | ⟨e1, e2⟩
    · rcases sp q z hz with ⟨_, h2⟩ | ⟨e3, e4⟩
      · exact hI.dp i q y z hne h1 h2
      · subst e4
        cases hbk : blockOf y.pA with
        | none => exact .inl rfl
        | some b =>
          refine .inr fun e => ?_
          have a1 := old i y h1 b hbk
          have a2 := (o0.lt (k := b) e.symm).1
          omega
    · rcases sp q z hz with ⟨_, h2⟩ | ⟨e3, e4⟩
      · subst e2
        cases hbk : blockOf y.pA with
        | none => exact .inl rfl
        | some b =>
          refine .inr fun e => ?_
          have a1 := old q z h2 b e.symm
          have a2 := (o0.lt (k := b) hbk).1
          omega
      · omega
  case t0 =>
    intro i y hy b hbk
    rcases sp i y hy with ⟨_, h1⟩ | ⟨_, rfl⟩
    · exact Nat.lt_of_lt_of_le (hI.tp i y h1 b hbk) ht
    · exact z0 b hbk
theorem OwnI.below {w w' : World} {base top : Nat} {A : Option Addr} {n c : Nat} {hs : List HI} {l : List (List Int)} (h : OwnI w base top A n c hs l) (hb : Below w.heap.size w w') : OwnI w' base top A n c hs l := ⟨h.hd.below hb, h.len, h.inn.below hb, h.th⟩
theorem OwnI.hlen {w : World} {base top : Nat} {A : Option Addr} {n c : Nat} {hs : List HI} {l : List (List Int)} (h : OwnI w base top A n c hs l) : hs.length ≤ l.length := by rw [h.len, h.hd.len]; exact Nat.le_refl _
theorem OwnI.turned {w w' : World} {base top : Nat} {A : Option Addr} {n c : Nat} {hs : List HI} {l : List (List Int)} {lo hi : Nat} (h : OwnI w base top A n c hs l) (ht : Turned w w' lo hi) (hn : hi ≤ base ∨ top ≤ lo) : OwnI w' base top A n c hs l :=
  ⟨h.hd.turned ht (fun b hb => by have a1 := (h.hd.lt hb).1; have a2 := h.th b hb; omega), h.len, h.inn.turned h.hlen ht hn, h.th⟩
theorem OwnI.base_le {w : World} {base top : Nat} {A : Option Addr} {n c : Nat} {hs : List HI} {l : List (List Int)} {b0 : Nat} (h : OwnI w base top A n c hs l) (hb : b0 ≤ base) : OwnI w b0 top A n c hs l := ⟨h.hd.base_le hb, h.len, h.inn.base_le hb, h.th⟩
theorem OwnI.rd {w : World} {base top : Nat} {A : Option Addr} {n c : Nat} {hs : List HI} {l : List (List Int)} (h : OwnI w base top A n c hs l) : RdI w A n c hs l := ⟨h.hd.rd hIV_len, h.len, fun i k x h1 h2 => (h.inn.p_ i k x h1 h2).rd inV_len⟩
theorem OwnI.nil (w : World) (base top : Nat) : OwnI w base top none 0 0 [] [] := ⟨Own.nil _ _ _, rfl, InnI.nil _ _ _ _, fun k h => by simp [blockOf] at h⟩
/-- One element's row p is written. -/
theorem OwnI.put_p {w w' : World} {base top : Nat} {A : Option Addr} {n c : Nat} {hs : List HI} {l : List (List Int)} {i : Nat} {h : HI} {x : List Int} {y : List Int} (hO : OwnI w base top A n c hs l) (hh : hs[i]? = some h) (hx : l[i]? = some x) (hg : w.grownBy w' (blockOf h.pA)) (ho : Own inV 1 w' base 3 h.pA h.pn h.pc y) :
    OwnI w' base top A n c hs (l.set i y) ∧ Turned w w' base top := by
  have hil : i < l.length := (List.getElem?_eq_some_iff.1 hx).1
  have me := hO.inn.p_ i h x hh hx
  have T : Turned w w' base top := turned_of_grown hg (fun k hk => ⟨(me.lt hk).1, hO.inn.tp i h hh k hk⟩)
  refine ⟨⟨hO.hd.grown hg (hO.hd.ne_block me (by decide)), by simpa using hO.len, ⟨?a0, hO.inn.dp, hO.inn.tp⟩, hO.th⟩, T⟩
  case a0 =>
    intro q k z hk hz
    by_cases e : q = i
    · subst e
      rw [hh] at hk
      injection hk with hk
      subst hk
      rw [List.getElem?_set_self hil] at hz
      injection hz with hz
      subst hz
      exact ho
    · rw [List.getElem?_set_ne (fun a => e a.symm)] at hz
      exact (hO.inn.p_ q k z hk hz).grown hg (hO.inn.dp q i k h e hk hh)
/-- How many cells the elements hold. -/
def sizI (x : List Int) : Nat := (x).length
def totI (l : List (List Int)) : Nat := (l.map sizI).sum
theorem totI_next {l : List (List Int)} {k : Nat} {x : List Int} (h : l[k]? = some x) : totI (l.take (k + 1)) = totI (l.take k) + sizI x := by
  unfold totI; rw [List.take_add_one, h]; simp
theorem totI_le (l : List (List Int)) (k : Nat) : totI (l.take k) ≤ totI l := by
  have h : totI l = totI (l.take k) + totI (l.drop k) := by unfold totI; rw [← List.sum_append, ← List.map_append, List.take_append_drop]
  omega
theorem totI_mem {l : List (List Int)} {k : Nat} {x : List Int} (h : l[k]? = some x) : totI (l.take k) + sizI x ≤ totI l := by
  rw [← totI_next h]; exact totI_le _ _
def szPC (l : List CL) (left r : Int) : Prop := r = -1 ∨ (0 ≤ r ∧ r + (l.length : Int) + (totC l : Int) ≤ left ∧ ∀ x ∈ l, ∀ s ∈ x.ws, (s.size : Int) ≤ left)
def szPC1 (x : CL) (left r : Int) : Prop := r = -1 ∨ (0 ≤ r ∧ r ≤ left - (x.ws.length : Int) - (x.ns.length : Int) ∧ ∀ s ∈ x.ws, (s.size : Int) ≤ left)
def CLgood (x : CL) : Prop := (∀ s ∈ x.ws, s.size ≤ maxLen) ∧ ∀ y ∈ x.ns, -9223372036854775808 ≤ y ∧ y ≤ 9223372036854775807
set_option maxRecDepth 100000 in
set_option maxHeartbeats 1000000 in
theorem szClause_any (h : HC) (x : CL) (left : Int) (w : World) (x0 : Rd stV 1 w h.wA h.wn h.wc x.ws) (x1 : Rd inV 1 w h.nA h.nn h.nc x.ns) (h0 : 0 ≤ left) (h1 : left ≤ 1048576) (hg : ∀ s ∈ x.ws, s.size ≤ maxLen) :
    Calls Try.prog 30 #[.agg #[.slice h.wA h.wn h.wc, .slice h.nA h.nn h.nc], .int .i64 left] w fun e w' => (∃ r : Int, e = .returned (.int .i64 r) ∧ szPC1 x left r) ∧ Below w.heap.size w w' := by
  obtain ⟨W, hW⟩ : ∃ W : World, W = w.alloc (.cells #[.slice h.wA h.wn h.wc, .slice h.nA h.nn h.nc] 55) := ⟨_, rfl⟩
  have t0 : Below w.heap.size w W := by rw [hW]; exact below_alloc _
  have q1 := cell_of_row W w.heap.size 1 _ _ _ (by rw [hW]; exact heap_new rfl)
  change _ = some (Value.slice h.nA h.nn h.nc) at q1
  have hm1 := x1.le
  have LW := Lib.hid x0.len
  have LN := Lib.hid x1.len
  go_enter Try.func30, Try.ntmps30
  go_wp2_with fail
  rw [← hW]
  clear hW
  refine (szStringS_any _ _ _ _ left _ (x0.below t0) h0 h1 hg).mono ?_
  rintro e w1 ⟨⟨r, rfl, hr⟩, b1⟩
  have t1 := below_trans t0 b1
  replace q1 := cell_below b1 q1
  rcases hr with rfl | ⟨r0, r1, r2, r3⟩
  · go_wp2
    go_ret
    exact ⟨⟨_, rfl, .inl rfl⟩, t1⟩
  have R3 := Lib.hid r3
  clear r3
  go_wp2_with fail
  by_cases hs : r < (h.nn : Int)
  · refine (szIntS_no _ _ _ _ r _ (x1.below t1) (by omega) (by omega) hs).mono ?_
    rintro e wx ⟨rfl, rfl⟩
    go_wp2
    go_ret
    exact ⟨⟨_, rfl, .inl rfl⟩, t1⟩
  · refine (szIntS_yes _ _ _ _ r _ (x1.below t1) (by omega) (by omega) (by omega)).mono ?_
    rintro e wx ⟨rfl, rfl⟩
    go_wp2
    go_ret
    exact ⟨⟨_, rfl, .inr ⟨by omega, by have := LW.out; have := LN.out; omega, R3.out⟩⟩, t1⟩

set_option maxRecDepth 100000 in
set_option maxHeartbeats 1000000 in
theorem szClauseS_any (A : Option Addr) (n c : Nat) (hs0 : List HC) (l : List CL) (left : Int) (w : World) (ha : RdC w A n c hs0 l) (h0 : 0 ≤ left) (h1 : left ≤ 1048576) (hg : ∀ x ∈ l, ∀ s ∈ x.ws, s.size ≤ maxLen) :
    Calls Try.prog 5 #[.slice A n c, .int .i64 left] w fun e w' => (∃ r : Int, e = .returned (.int .i64 r) ∧ szPC l left r) ∧ Below w.heap.size w w' := by
  have hm := ha.le
  have HL := Lib.hid ha.len
  by_cases hs : left - (n : Int) < 0
  · clear ha
    go_enter Try.func5, Try.ntmps5
    go_wp2
    go_ret
    exact ⟨⟨_, rfl, .inl rfl⟩, Below.refl _ _⟩
  · go_enter Try.func5, Try.ntmps5
    go_wp2
    go_loopw [1, 5] (fun lv i wr => ∃ (k : Nat) (L : Int), k ≤ n ∧ i = .int .i64 k ∧ lv = .int .i64 L ∧ 0 ≤ L ∧ L + (n : Int) + (totC (l.take k) : Int) ≤ left ∧ Below w.heap.size w wr ∧ ∀ j x, j < k → l[j]? = some x → ∀ s ∈ x.ws, (s.size : Int) ≤ left) (fun _ i _ => n - (intOf i).toNat)
    case atStart => exact ⟨0, left - n, Nat.zero_le _, rfl, rfl, by omega, by simp [totC], Below.refl _ _, fun j x hj => absurd hj (by omega)⟩
    case round =>
      obtain ⟨k, L, hk, rfl, rfl, hL0, hL1, hbw, hup⟩ := hrel
      have HU := Lib.hid hup
      clear hup
      by_cases hlt : k < n
      · obtain ⟨b1, o1, h, x, rfl, hx, -, c0, c1, x0, x1⟩ := (ha.below hbw).at hlt
        have hgx := hg x (List.mem_of_getElem? hx)
        have HX := Lib.hid hx
        have NX := Lib.hid (totC_next hx)
        clear hx ha
        go_wp2_with fail
        refine (szClause_any h x L _ x0 x1 (by omega) (by omega) hgx).mono ?_
        rintro e w2 ⟨⟨r, rfl, hr⟩, b2⟩
        rcases hr with rfl | ⟨r0, r1, r2⟩
        · go_wp2
          go_ret
          exact ⟨⟨_, rfl, .inl rfl⟩, below_trans hbw b2⟩
        · have R2 := Lib.hid r2
          clear r2
          have HN : Hid (∀ j y, j < k + 1 → l[j]? = some y → ∀ s ∈ y.ws, (s.size : Int) ≤ left) := fun j y hj hy s hs => by
            by_cases e : j = k
            · subst e; rw [HX.out] at hy; injection hy with hy; subst hy; have := R2.out s hs; omega
            · exact HU.out j y (by omega) hy s hs
          have HT : Hid (r + (n : Int) + (totC (l.take (k + 1)) : Int) ≤ left) := by show _ ≤ _; rw [NX.out]; simp only [sizC]; push_cast; omega
          go_wp2
          go_roundw
          case rel => exact ⟨k + 1, r, by omega, by go_num, rfl, r0, HT.out, below_trans hbw b2, HN.out⟩
          case measure => simp [intOf]; omega
      · obtain rfl : k = n := by omega
        have HN : Hid (szPC l left L) := .inr ⟨hL0, by rw [List.take_of_length_le (by rw [HL.out]; exact Nat.le_refl _)] at hL1; rw [HL.out]; exact hL1, fun x hx => by
          obtain ⟨j, hj⟩ := List.mem_iff_getElem?.1 hx
          exact HU.out j x (by rw [← HL.out]; exact (List.getElem?_eq_some_iff.1 hj).1) hj⟩
        clear ha hg
        go_wp2
        go_ret
        exact ⟨⟨_, rfl, HN.out⟩, hbw⟩


end Go.Proofs.Ytndoapgalbljpaa
