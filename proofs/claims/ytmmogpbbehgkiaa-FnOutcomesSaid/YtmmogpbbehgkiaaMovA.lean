/-
  YtmmogpbbehgkiaaMovA: lists of pairs in memory: compared, sorted (slices.SortFunc), compacted (slices.CompactFunc): by contracts.
-/
import Derived.Test.YtmmogpbbehgkiaaMovM
import Derived.Test.YtmmogpbbehgkiaaNest
import Derived.Test.YtmmogpbbehgkiaaSrtK
import Derived.Test.YtmmogpbbehgkiaaTail
import Derived.Test.YtmmogpbbehgkiaaShelf
import Derived.Test.YtmmogpbbehgkiaaShelfS
import Derived.Deep.LoopGhost
import Derived.Deep.RegionLaw
import Derived.BigQuiet
import Derived.Deep.QuietTactic
import Derived.Lib.SliceRun
namespace Go.Proofs.Ytmmogpbbehgkiaa
open Go Go.RowKit Go.Sort
set_option linter.unusedVariables false

/-! ### words -/
/-- What can be read in blocks that are left alone can still be read. -/
theorem Rd.far {α : Type} {enc : α → List Value} {sz : Nat} {w w' : World} {A : Option Addr} {n c : Nat} {l : List α} {row : Option Nat} (h : Rd enc sz w A n c l) (hg : w.grownBy w' row) (hne : ∀ k, blockOf A = some k → row ≠ some k) : Rd enc sz w' A n c l := by
  refine ⟨h.len, h.cap, h.max, h.nil0, fun h0 => ?_⟩
  obtain ⟨b, off, e, hc⟩ := h.at_ h0
  refine ⟨b, off, e, fun i x hx j u hu => ?_⟩
  have h1 := hc i x hx j u hu
  rw [World.cell?_of_block (hg.block b (lt_of_cell h1) (fun e2 => hne b (by rw [e]; rfl) e2.symm))]
  exact h1
abbrev PP := HI × List Int
def hvV (h : HI) : Value := .slice h.pA h.pn h.pc
theorem hIV_one (h : HI) : hIV h = [hvV h] := rfl
/-- A pair that lies in memory, in another block than g. -/
structure PairIn (w : World) (g : Nat) (p : PP) : Prop where
  rd : Rd inV 1 w p.1.pA p.1.pn p.1.pc p.2
  ok : okP2 p.2
  ne : ∀ k, blockOf p.1.pA = some k → k ≠ g
theorem PairIn.two {w : World} {g : Nat} {p : PP} (h : PairIn w g p) : p.1.pn = 2 := by
  obtain ⟨a, b, e, _⟩ := h.ok
  have := h.rd.len
  rw [e] at this
  exact this.symm
theorem PairIn.far {w w' : World} {g : Nat} {p : PP} (h : PairIn w g p) (hg : w.grownBy w' (some g)) : PairIn w' g p :=
  ⟨h.rd.far hg (fun k hk e => h.ne k hk (by injection e with e; exact e.symm)), h.ok, h.ne⟩
def keyQ (p : PP) : Int := keyP p.2
def cfP (p q : PP) : Int := Lib.compareInt (keyQ p) (keyQ q)
theorem cmpInt_lt (a b : Int) : Lib.compareInt a b < 0 ↔ a < b := by
  unfold Lib.compareInt
  split
  · omega
  · split <;> omega
theorem cmp_pair {a b x y : Int} (h1 : 1 ≤ a ∧ a ≤ 20 ∧ 1 ≤ b ∧ b ≤ 20) (h2 : 1 ≤ x ∧ x ≤ 20 ∧ 1 ≤ y ∧ y ≤ 20) : Lib.compareInt (keyP [a, b]) (keyP [x, y]) = if Lib.compareInt a x = 0 then Lib.compareInt b y else Lib.compareInt a x := by
  rw [keyP_two, keyP_two]
  unfold Lib.compareInt
  rcases Int.lt_trichotomy a x with h | h | h
  · rw [if_pos (by omega), if_pos h]; rfl
  · subst h
    rw [if_neg (show ¬ a < a by omega), if_neg (show ¬ a > a by omega), if_pos rfl]
    rcases Int.lt_trichotomy b y with g | g | g
    · rw [if_pos (by omega), if_pos g]
    · subst g; rw [if_neg (by omega), if_neg (by omega), if_neg (by omega), if_neg (by omega)]
    · rw [if_neg (by omega), if_pos (by omega), if_neg (by omega), if_pos g]
  · rw [if_neg (by omega), if_pos (by omega), if_neg (show ¬ a < x by omega), if_pos h]; rfl

/-! ### slices.Compare at two pairs -/
set_option maxRecDepth 100000 in
set_option maxHeartbeats 1000000 in
theorem cmpPair_any (p q : PP) (g : Nat) (w : World) (hp : PairIn w g p) (hq : PairIn w g q) :
    Calls Try.prog 33 #[hvV p.1, hvV q.1] w fun e w' => e = .returned (.int .i64 (cfP p q)) ∧ w = w' := by
  obtain ⟨a, b, e1, ha⟩ := hp.ok
  obtain ⟨x, y, e2, hx⟩ := hq.ok
  have n1 := hp.two
  have n2 := hq.two
  have R1 := hp.rd
  have R2 := hq.rd
  have CF : Hid (cfP p q = if Lib.compareInt a x = 0 then Lib.compareInt b y else Lib.compareInt a x) := by unfold cfP keyQ; rw [e1, e2]; exact cmp_pair ha hx
  rw [e1] at R1
  rw [e2] at R2
  obtain ⟨⟨A1, m1, c1⟩, l1⟩ := p
  obtain ⟨⟨A2, m2, c2⟩, l2⟩ := q
  simp only at n1 n2 R1 R2
  subst n1 n2
  clear hp hq e1 e2
  obtain ⟨b1, o1, z0, rfl, hz0, d0⟩ := R1.in (i := 0) (by omega)
  obtain ⟨b1', o1', z1, hA1, hz1, d1⟩ := R1.in (i := 1) (by omega)
  obtain ⟨b2, o2, y0, rfl, hy0, f0⟩ := R2.in (i := 0) (by omega)
  obtain ⟨b2', o2', y1, hA2, hy1, f1⟩ := R2.in (i := 1) (by omega)
  injection hA1 with hA1
  injection hA1 with u1 u2
  injection hA2 with hA2
  injection hA2 with v1 v2
  subst u1 u2 v1 v2
  obtain rfl : a = z0 := by injection hz0
  obtain rfl : b = z1 := by injection hz1
  obtain rfl : x = y0 := by injection hy0
  obtain rfl : y = y1 := by injection hy1
  have k1 := fun W' => Try.cmp_Compare_int a x W'
  have k2 := fun W' => Try.cmp_Compare_int b y W'
  simp only [Nat.add_zero] at d0 f0
  clear hz0 hz1 hy0 hy1 R1 R2 ha hx
  generalize Lib.compareInt a x = r at *
  generalize Lib.compareInt b y = s at *
  show Calls _ _ #[.slice (some ⟨b1, o1, none⟩) 2 c1, .slice (some ⟨b2, o2, none⟩) 2 c2] _ _
  go_enter Try.func33, Try.ntmps33
  by_cases hr : r = 0
  · subst hr
    by_cases hs : s = 0
    · subst hs
      have C0 : Hid (cfP (⟨some ⟨b1, o1, none⟩, 2, c1⟩, l1) (⟨some ⟨b2, o2, none⟩, 2, c2⟩, l2) = 0) := by show _ = _; rw [CF.out]; rfl
      go_wp2
      refine wp_loop_rounds 3 ?_
      rw [rounds_succ]
      go_wp2_with (first | (go_at_call 55; refine (k1 _).mono ?_; rintro e w1 ⟨rfl, rfl⟩))
      rw [rounds_succ]
      go_wp2_with (first | (go_at_call 55; refine (k2 _).mono ?_; rintro e w1 ⟨rfl, rfl⟩))
      rw [rounds_succ]
      go_wp2
      go_ret
      exact ⟨ret_int C0.out.symm, rfl⟩
    · have C0 : Hid (cfP (⟨some ⟨b1, o1, none⟩, 2, c1⟩, l1) (⟨some ⟨b2, o2, none⟩, 2, c2⟩, l2) = s) := by show _ = _; rw [CF.out]; rfl
      have hb : (s != 0) = true := by simpa using hs
      clear hs
      go_wp2
      refine wp_loop_rounds 2 ?_
      rw [rounds_succ]
      go_wp2_with (first | (go_at_call 55; refine (k1 _).mono ?_; rintro e w1 ⟨rfl, rfl⟩))
      rw [rounds_succ]
      go_wp2_with (first | (go_at_call 55; refine (k2 _).mono ?_; rintro e w1 ⟨rfl, rfl⟩))
      go_ret
      exact ⟨ret_int C0.out.symm, rfl⟩
  · have C0 : Hid (cfP (⟨some ⟨b1, o1, none⟩, 2, c1⟩, l1) (⟨some ⟨b2, o2, none⟩, 2, c2⟩, l2) = r) := by show _ = _; rw [CF.out, if_neg hr]
    have hb : (r != 0) = true := by simpa using hr
    clear hr
    go_wp2
    refine wp_loop_rounds 1 ?_
    rw [rounds_succ]
    go_wp2_with (first | (go_at_call 55; refine (k1 _).mono ?_; rintro e w1 ⟨rfl, rfl⟩))
    go_ret
    exact ⟨ret_int C0.out.symm, rfl⟩

/-! ### slices.SortFunc at the pairs of the call's own -/
theorem Own.of_map {α β : Type} {enc : β → List Value} {sz : Nat} {w : World} {base : Nat} {e : TypeId} {A : Option Addr} {n c : Nat} {l : List α} {f : α → β} (h : Own enc sz w base e A n c (l.map f)) : Own (fun x => enc (f x)) sz w base e A n c l :=
  ⟨by have := h.len; rwa [List.length_map] at this, by have := h.row; rwa [List.flatMap_map] at this⟩
theorem Own.to_map {α β : Type} {enc : β → List Value} {sz : Nat} {w : World} {base : Nat} {e : TypeId} {A : Option Addr} {n c : Nat} {l : List α} {f : α → β} (h : Own (fun x => enc (f x)) sz w base e A n c l) : Own enc sz w base e A n c (l.map f) :=
  ⟨by rw [List.length_map]; exact h.len, by rw [List.flatMap_map]; exact h.row⟩
theorem grown_sort1 {α : Type} [Inhabited α] {enc : α → Value} {w : World} {g q : Nat} {d : Array α} {os : Array Obj} : w.grownBy (sortWorld enc w g 0 q d os) (some g) := by
  refine ⟨rfl, rfl, rfl, by simp [sortWorld], fun k hk hne => ?_⟩
  unfold sortWorld
  rw [heap_grow_old _ _ (by simpa using hk)]
  have : g ≠ k := fun e => hne (by rw [e])
  simp [putRow, mapBlock, Sort.ahead, Array.getElem?_modify, this]
theorem swo_key {α : Type} (key : α → Int) : SWO (ltOf fun x y => Lib.compareInt (key x) (key y)) := by
  have hl : ∀ x y, ltOf (fun x y => Lib.compareInt (key x) (key y)) x y = decide (key x < key y) := fun x y => by
    unfold ltOf
    rw [Bool.eq_iff_iff, decide_eq_true_eq, decide_eq_true_eq, cmpInt_lt]
  refine ⟨fun x => ?_, fun x y z h1 h2 => ?_, fun x y z h1 h2 => ?_⟩
  · rw [hl]; simp
  · rw [hl] at *; simp at *; omega
  · rw [hl] at *; simp at *; omega
/-- Pairs sorted: a permutation, whose keys do not fall. -/
theorem sortPairs_any (g n c base : Nat) (ps : List PP) (w : World) (ho : Own hIV 1 w base 37 (some ⟨g, 0, none⟩) n c (ps.map (·.1))) (hp : ∀ p ∈ ps, PairIn w g p) (h0 : 0 < n) (hn : n < 4611686018427387904) :
    Calls Try.prog 32 #[.slice (some ⟨g, 0, none⟩) n c, .func (.func 33) #[] #[]] w fun e w' => e = .returned (.tuple #[]) ∧ ∃ qs : List PP, qs.Perm ps ∧ (qs.map keyQ).Pairwise (· ≤ ·) ∧ Own hIV 1 w' base 37 (some ⟨g, 0, none⟩) n c (qs.map (·.1)) ∧ w.grownBy w' (some g) := by
  have hlen : ps.length = n := by have := ho.len; rwa [List.length_map] at this
  have hb := (ho.lt (k := g) rfl).2
  have x0 : { p // p ∈ ps } := ⟨ps[0]'(by omega), List.getElem_mem _⟩
  haveI : Inhabited { p // p ∈ ps } := ⟨x0⟩
  have he : ps.attach.map (fun x => x.1.1) = ps.map (·.1) := by
    have : ps.attach.map (fun x => x.1) = ps := List.attach_map_subtype_val ps
    conv => rhs; rw [← this, List.map_map]
    rfl
  have hA : Own (fun x : { p // p ∈ ps } => [hvV x.1.1]) 1 w base 37 (some ⟨g, 0, none⟩) n c ps.attach := by
    have : Own hIV 1 w base 37 (some ⟨g, 0, none⟩) n c (ps.attach.map fun x => x.1.1) := by rw [he]; exact ho
    exact this.of_map
  have hs : ps.attach.toArray.size = n := by simpa using hlen
  have eg : ∀ args w, (callFunc 33 args).run Try.prog w = .ok (.enter 33 args) w := enters_of Try.func33 (by kernel_rfl) rfl
  have hcon := Any.slices_SortFunc Try.laysSort (fun x : { p // p ∈ ps } => hvV x.1.1) (fun x => rfl) (fun x y => cfP x.1 y.1) (swo_key fun x : { p // p ∈ ps } => keyQ x.1) 33 #[] g 0 c ps.attach.toArray w eg
    (fun m os dk hdk x y => (cmpPair_any x.1 y.1 g _ ((hp x.1 x.2).far grown_sort1) ((hp y.1 y.2).far grown_sort1)).mono fun e w' h => ⟨h.1, 0, #[], by rw [grow_empty]; exact h.2.symm⟩)
    hA.holds1 hb (by rw [hs]; exact hn)
  rw [hs] at hcon
  change Calls Try.prog 32 _ _ _ at hcon
  refine hcon.mono ?_
  rintro e w' ⟨rfl, d', m, os, hperm, hsorted, rfl⟩
  obtain ⟨hp1, hp2⟩ := perm_of_in (l := ps.attach) (by rw [hs]; exact hperm)
  have hdn : d'.size = n := by have := hp2; rw [Array.length_toList, List.length_attach, hlen] at this; exact this
  refine ⟨rfl, d'.toList.map (·.1), ?_, ?_, ?_, grown_sort1⟩
  · have := hp1.map (fun x : { p // p ∈ ps } => x.1)
    rwa [show ps.attach.map (fun x => x.1) = ps from List.attach_map_subtype_val ps] at this
  · rw [List.map_map, List.pairwise_map, List.pairwise_iff_getElem]
    intro i j hi hj hij
    have hi' : i < d'.size := by simpa using hi
    have hj' : j < d'.size := by simpa using hj
    have h9 := hsorted i j (Nat.zero_le _) hij (by omega)
    rw [getElem!_pos d' j hj', getElem!_pos d' i hi'] at h9
    have h8 : ¬ cfP d'[j].1 d'[i].1 < 0 := by simpa [ltOf] using h9
    unfold cfP at h8
    rw [cmpInt_lt] at h8
    simp only [Function.comp, Array.getElem_toList]
    omega
  · have := hA.sorted1 (ys := d'.toList) (q := m) (os := os) hp2
    rw [List.map_map]
    exact this.to_map

end Go.Proofs.Ytmmogpbbehgkiaa
