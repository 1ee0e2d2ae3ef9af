/-
  YtcockjjilcapaaaGreatBalS: boxes sorted: SortBox on both sides, by contracts. (Printed by wip/gen/zsrt.py.)
-/
import Derived.Test.YtcockjjilcapaaaGreatSrtM
import Derived.Test.YtcockjjilcapaaaGreatSrtK
import Derived.Test.YtcockjjilcapaaaGreatShelf
import Derived.Test.YtcockjjilcapaaaGreatShelfS
import Derived.Test.YtcockjjilcapaaaGreatTail
import Derived.Shelf.SlicesG.Cmp
import Derived.Deep.RegionLaw
import Derived.Deep.RegionHeld3
import Derived.BigQuiet
import Derived.Deep.QuietTactic
namespace Go.Proofs.YtcockjjilcapaaaGreat
open Go Go.RowKit Go.Sort
set_option linter.unusedVariables false

/-! ### the order of two ballots, as the program asks it -/
def orI (l : List Int) : Int := (l.find? fun y => y != 0).getD 0
theorem orI_hit {l : List Int} {k : Nat} {x : Int} (h : ∀ j, j < k → l[j]? = some 0) (hx : l[k]? = some x) (h0 : x ≠ 0) : orI l = x := by
  have hk := (List.getElem?_eq_some_iff.1 hx)
  have : l.find? (fun y => y != 0) = some x := by
    rw [List.find?_eq_some_iff_getElem]
    refine ⟨by simpa using h0, k, hk.1, hk.2, fun j hj => ?_⟩
    have := (List.getElem?_eq_some_iff.1 (h j hj)).2
    simp [this]
  unfold orI
  rw [this]; rfl
theorem orI_none {l : List Int} (h : ∀ j, j < l.length → l[j]? = some 0) : orI l = 0 := by
  have : l.find? (fun y => y != 0) = none := by
    rw [List.find?_eq_none]
    intro x hx
    obtain ⟨j, hj⟩ := List.mem_iff_getElem?.1 hx
    have := h j (List.getElem?_eq_some_iff.1 hj).1
    rw [hj] at this
    injection this with this
    simp [this]
  unfold orI
  rw [this]; rfl
def cfB (x y : BA) : Int := orI [Lib.compareInt x.code y.code, Lib.compareBytes x.ch.data.toList y.ch.data.toList]
theorem cmpInt_lt (a b : Int) : Lib.compareInt a b < 0 ↔ a < b := by
  unfold Lib.compareInt
  split
  · omega
  · split <;> omega
theorem cmpInt_eq (a b : Int) : Lib.compareInt a b = 0 ↔ a = b := by
  unfold Lib.compareInt
  split
  · omega
  · split <;> omega
theorem cmpB_lt : ∀ a b : List UInt8, (Lib.compareBytes a b < 0) ↔ Op.bytesLess a b = true
  | [], [] => by simp [Lib.compareBytes, Op.bytesLess]
  | [], y :: b => by simp [Lib.compareBytes, Op.bytesLess]
  | x :: a, [] => by simp [Lib.compareBytes, Op.bytesLess]
  | x :: a, y :: b => by
    have ih := cmpB_lt a b
    simp only [Lib.compareBytes, Op.bytesLess, Bool.or_eq_true, Bool.and_eq_true, decide_eq_true_eq, beq_iff_eq]
    by_cases h1 : x < y
    · simp [h1]
    · rw [if_neg h1]
      by_cases h2 : y < x
      · rw [if_pos h2]
        have hne : ¬ x = y := fun e => by rw [e] at h2; exact absurd h2 (by simp)
        simp [h1, hne]
      · rw [if_neg h2]
        have he : x = y := UInt8.toNat_inj.1 (by rw [UInt8.lt_iff_toNat_lt] at h1 h2; omega)
        rw [ih]
        simp [he]
theorem orI_two (a b : Int) : orI [a, b] = if a = 0 then b else a := by
  by_cases h : a = 0
  · rw [if_pos h]
    by_cases h2 : b = 0
    · rw [h, h2]; rfl
    · exact orI_hit (k := 1) (fun j hj => by have : j = 0 := by omega
                                             rw [this, h]; rfl) rfl h2
  · rw [if_neg h]
    exact orI_hit (k := 0) (fun j hj => absurd hj (by omega)) rfl h
theorem cfB_lt (x y : BA) : ltOf cfB x y = baLt x y := by
  unfold ltOf cfB
  rw [orI_two, Bool.eq_iff_iff, decide_eq_true_eq, baLt_iff]
  have hb : bL x.ch y.ch = true ↔ Lib.compareBytes x.ch.data.toList y.ch.data.toList < 0 := by
    unfold bL
    rw [cmpB_lt, Lib.toList_data, Lib.toList_data]
  rw [hb]
  by_cases h : Lib.compareInt x.code y.code = 0
  · rw [if_pos h]
    have := (cmpInt_eq _ _).1 h
    constructor
    · intro h2; exact .inr ⟨this, h2⟩
    · rintro (h2 | ⟨_, h2⟩)
      · omega
      · exact h2
  · rw [if_neg h]
    have h0 : ¬ x.code = y.code := fun e => h ((cmpInt_eq _ _).2 e)
    rw [cmpInt_lt]
    constructor
    · exact .inl
    · rintro (h2 | ⟨h2, _⟩)
      · exact h2
      · exact absurd h2 h0
theorem cfB_fun : ltOf cfB = baLt := funext fun x => funext fun y => cfB_lt x y

set_option maxRecDepth 100000 in
set_option maxHeartbeats 1000000 in
theorem cmpOr_any (A : Option Addr) (n c : Nat) (l : List Int) (w : World) (ha : Rd inV 1 w A n c l) : Calls Tryz.prog 35 #[.slice A n c] w fun e w' => e = .returned (.int .i64 (orI l)) ∧ w = w' := by
  have hm := ha.le
  have HL := Lib.hid ha.len
  go_enter Tryz.func35, Tryz.ntmps35
  go_wp2
  go_loop [8] (fun i => ∃ k : Nat, k ≤ n ∧ i = .int .i64 k ∧ ∀ j, j < k → l[j]? = some 0) (fun i => n - (intOf i).toNat)
  case atStart => exact ⟨0, Nat.zero_le _, rfl, fun j hj => absurd hj (by omega)⟩
  case round =>
    obtain ⟨k, hk, rfl, hup⟩ := hrel
    have HU := Lib.hid hup
    clear hup
    by_cases hlt : k < n
    · obtain ⟨b1, o1, x, rfl, hs, c0⟩ := ha.in hlt
      have HS := Lib.hid hs
      clear hs ha
      by_cases h0 : x = 0
      · have HN : Hid (∀ j, j < k + 1 → l[j]? = some 0) := fun j hj => by
          by_cases e : j = k
          · subst e; rw [HS.out, h0]
          · exact HU.out j (by omega)
        have hb : (x != 0) = false := by simpa using h0
        clear h0
        go_wp2
        go_round
        case rel => exact ⟨k + 1, by omega, by go_num, HN.out⟩
        case measure => simp [intOf]; omega
      · have E := Lib.hid (orI_hit HU.out HS.out h0)
        have hb : (x != 0) = true := by simpa using h0
        clear h0
        go_wp2
        go_ret
        exact ⟨ret_int E.out.symm, rfl⟩
    · obtain rfl : k = n := by omega
      have E := Lib.hid (orI_none (l := l) (fun j hj => HU.out j (by rw [← HL.out]; exact hj)))
      clear ha
      go_wp2
      go_ret
      exact ⟨ret_int E.out.symm, rfl⟩
theorem below_drewB (w : World) (k : Nat) : Below w.heap.size w (w.drewN k) := ⟨rfl, rfl, rfl, Nat.le_refl _, fun i _ => rfl⟩
theorem rd_two (w : World) (a b : Int) {k : Nat} (hk : k = w.heap.size) : Rd inV 1 (w.alloc (.cells #[.int .i64 a, .int .i64 b] 3)) (some ⟨k, 0, none⟩) 2 2 [a, b] := by
  subst hk
  have h : Own inV 1 (w.alloc (.cells #[.int .i64 a, .int .i64 b] 3)) w.heap.size 3 (some ⟨w.heap.size, 0, none⟩) 2 2 [a, b] := ⟨rfl, by
    have := World.ownsRow_lit (base := w.heap.size) (e := 3) (size := 1) w #[.int .i64 a, .int .i64 b] 2 (Nat.le_refl _) (by simp [maxLen]) rfl
    simpa [inV] using this⟩
  exact h.rd inV_len

set_option maxRecDepth 100000 in
set_option maxHeartbeats 4000000 in
theorem cmpBa_any (x y : BA) (W : World) : Calls Tryz.prog 34 #[.agg (baV x).toArray, .agg (baV y).toArray] W fun e w' => e = .returned (.int .i64 (cfB x y)) ∧ ∃ q os', w' = grow (W.drewN q) os' := by
  have h1 := fun W' => Tryz.cmp_Compare_int x.code y.code W'
  have h2 := fun W' => Tryz.strings_Compare x.ch y.ch W'
  unfold cfB
  generalize Lib.compareInt x.code y.code = c1 at *
  generalize Lib.compareBytes x.ch.data.toList y.ch.data.toList = c2 at *
  show Calls _ _ #[.agg #[.int .i64 x.code, .string x.ch], .agg #[.int .i64 y.code, .string y.ch]] _ _
  go_enter Tryz.func34, Tryz.ntmps34
  go_wp2_with fail
  go_region_law (first
    | (go_simp; go_at_call 36; refine (h1 _).mono ?_; rintro e w1 ⟨rfl, rfl⟩)
    | (go_simp; go_at_call 37; refine (h2 _).mono ?_; rintro e w1 ⟨rfl, rfl⟩)
    | (go_simp; go_at_call 35; refine (cmpOr_any _ 2 2 [c1, c2] _ (by first | exact rd_two _ _ _ (by simp) | exact (rd_two _ _ _ (by simp)).drew)).mono ?_; rintro e w1 ⟨rfl, rfl⟩))
  all_goals
    go_wp2
    go_ret
    exact ⟨rfl, _, _, by rw [alloc_eq_grow, alloc_eq_grow, alloc_eq_grow, grow_grow, grow_grow]; rfl⟩

/-! ### slices.SortFunc at the ballots of the call's own -/
theorem sortBa_any (A : Option Addr) (n c base B : Nat) (l : List BA) (w0 w : World) (ho : Own baV 2 w base 42 A n c l) (hB : B ≤ base) (hB0 : B ≤ w0.heap.size) (hw : Below B w0 w) (hn : n < 4611686018427387904) :
    Calls Tryz.prog 33 #[.slice A n c, .func (.func 34) #[] #[]] w fun e w' => e = .returned (.tuple #[]) ∧ Own baV 2 w' base 42 A n c (sortB l) ∧ Below B w0 w' := by
  have hlen := ho.len
  rcases ho.row.2 with ⟨hnil, h0⟩ | ⟨g, cap, cur, hv, hbase, hb, h1, h2, h3, h4⟩
  · injection hnil with e1 e2 e3
    subst e1 e2 e3
    have hl : l = [] := List.eq_nil_of_length_eq_zero hlen
    subst hl
    have hcon := AnyF.slices_SortFunc_none { Tryz.laysSort with } none 0 (.func (.func 34) #[] #[]) w
    change Calls Tryz.prog 33 _ _ _ at hcon
    refine hcon.mono ?_
    rintro e w' ⟨rfl, rfl⟩
    exact ⟨rfl, by rw [show sortB [] = [] by simp [sortB]]; exact ho, hw⟩
  · injection hv with e1 e2 e3
    subst e1 e3
    have hs : l.toArray.size = n := by simpa using hlen
    have eg : ∀ args w, (callFunc 34 args).run Tryz.prog w = .ok (.enter 34 args) w := enters_of Tryz.func34 (by kernel_rfl) rfl
    have hcon := AnyQ.slices_SortFunc_total Tryz.laysSort 2 Tryz.isAgg42 Tryz.sizeOf42 baV baV_len (fun x v hv => by simp [baV] at hv; rcases hv with rfl | rfl <;> rfl) cfB (by rw [cfB_fun]; exact baSWO) 34 #[] g 0 c l.toArray w eg (fun _ _ _ _ x y => cmpBa_any x y _) (ho.holdsK baV_len (by omega)) (Array.getElem?_eq_some_iff.1 hb).1 (by rw [hs]; exact hn) (by rw [cfB_fun]; exact fun _ _ => baLt_tri)
    rw [hs, cfB_fun] at hcon
    change Calls Tryz.prog 33 _ _ _ at hcon
    refine hcon.mono ?_
    rintro e w' ⟨rfl, q, os, rfl⟩
    exact ⟨rfl, ho.sortedK baV_len (by omega) (sortB_len l), below_sortK hw hB0 (Nat.le_trans hB hbase)⟩

/-! ### SortBox -/
def srtL (l : List BA) : List BA := if boxB l then sortB l else []
theorem srtL_len (l : List BA) : (srtL l).length ≤ l.length := by unfold srtL; split; rw [sortB_len]; exact Nat.le_refl _; simp
theorem one_baS : ∀ x : BA, ∀ u ∈ baV x, u.oneCell' = true := by intro x u h; simp [baV] at h; rcases h with rfl | rfl <;> rfl
theorem Tryz.infobaS : (Tryz.prog.info? 42).map (fun i => (i.zero, i.size, i.bytes)) = some (some (.agg #[.int .i64 0, .string ByteArray.empty]), 2, 24) := by kernel_rfl

set_option maxRecDepth 100000 in
set_option maxHeartbeats 1000000 in
theorem implSortBox_any (A : Option Addr) (n c : Nat) (l : List BA) (w : World) (ha : Rd baV 2 w A n c l) (hg : ∀ x ∈ l, BaSz x) :
    Calls Tryz.prog 14 #[.slice A n c] w fun e w' => (∃ B q d, e = .returned (.tuple #[.slice B q d, .bool (boxB l)]) ∧ Own baV 2 w' w.heap.size 42 B q d (srtL l)) ∧ Below w.heap.size w w' := by
  cases h1 : boxB l
  · have E := Lib.hid (show srtL l = [] by simp [srtL, h1])
    go_enter Tryz.func14, Tryz.ntmps14
    go_wp2_with fail
    refine (IsBox_any _ _ _ l _ ha hg).mono ?_
    rintro e w1 ⟨rfl, b1⟩
    rw [h1]
    clear h1
    go_wp2
    go_ret2
    exact ⟨⟨_, _, _, rfl, by rw [E.out]; exact Own.nil _ _ _⟩, b1⟩
  · have E := Lib.hid (show srtL l = sortB l by simp [srtL, h1])
    have hn : n ≤ 12 := by rw [← ha.len]; exact box_len h1
    obtain ⟨i0, hi, hz0, hz1, hz2⟩ := info_parts Tryz.infobaS
    have H1 := Lib.hid h1
    clear h1
    go_enter Tryz.func14, Tryz.ntmps14
    go_wp2_with fail
    refine (IsBox_any _ _ _ l _ ha hg).mono ?_
    rintro e w1 ⟨rfl, b1⟩
    rw [H1.out]
    replace ha := ha.below b1
    go_wp2_with ((
       at_builtin
       refine wpList_pushAll rfl _ _ _ rfl w1.heap.size 42 i0 _ 2 24 Tryz.underlying24 hi hz0 hz1 hz2 rfl (by omega) baV baV_len one_baS _ 0 0 [] rfl (Own.empty baV 2 _ 42) _ n c l rfl (ha.alloc _) (by simp only [maxLen]; omega) (by omega) (by first | simp; done | (simp; omega)) ?_
       intro B1 d1 w2 o1 g1
       simp only [Nat.zero_add, List.nil_append] at o1
       have b2 : Below w1.heap.size w1 w2 := (below_alloc _).grown g1 (by simp) (fun k hk => by simp [blockOf] at hk; omega)))
    refine (sortBa_any B1 n d1 w1.heap.size w1.heap.size l w1 w2 o1 (Nat.le_refl _) (Nat.le_refl _) b2 (by omega)).mono ?_
    rintro e w3 ⟨rfl, o3, b3⟩
    go_wp2
    go_ret2
    exact ⟨⟨_, _, _, rfl, by rw [E.out]; exact o3.base_le b1.size⟩, below_trans b1 b3⟩

/-- The reference's list behind i ballots: sorted, and a permutation of the first i. -/
def SrtTo (l : List BA) (i : Nat) (m : List BA) : Prop := m.Perm (l.take i) ∧ Srt m
theorem srtTo_zero (l : List BA) : SrtTo l 0 [] := ⟨by simp, List.Pairwise.nil⟩
theorem srtTo_next {l m : List BA} {i k : Nat} {x : BA} (h : SrtTo l i m) (hx : l[i]? = some x) (hk : k ≤ m.length) (hlo : ∀ a, 0 < k → m[k - 1]? = some a → baLt x a = false) (hhi : ∀ j a, k ≤ j → m[j]? = some a → baLt x a = true) : SrtTo l (i + 1) (insP m x k) := by
  refine ⟨?_, insP_srt h.2 hlo hhi hk⟩
  rw [List.take_add_one, hx]
  exact (insP_perm m x k).trans ((List.Perm.cons x h.1).trans (List.perm_append_singleton x (l.take i)).symm)
theorem srtTo_done {l m : List BA} (h : SrtTo l l.length m) : m = sortB l := sortB_uniq (by have := h.1; rwa [List.take_of_length_le (Nat.le_refl _)] at this) h.2
theorem Rd.dropB {α : Type} {enc : α → List Value} {sz : Nat} {w : World} {b o n c : Nat} {l : List α} (h : Rd enc sz w (some ⟨b, o, none⟩) n c l) {k : Nat} (hk : k ≤ n) : Rd enc sz w (some ⟨b, o + k * sz, none⟩) (n - k) (c - k) (l.drop k) := by
  have h1 := h.cap
  have h2 := h.max
  refine ⟨by rw [List.length_drop, h.len], by omega, by omega, (fun e => by cases e), fun h0 => ?_⟩
  obtain ⟨b', o', e, hc⟩ := h.at_ (by omega)
  injection e with e
  injection e with e1 e2
  subst e1 e2
  refine ⟨b, o + k * sz, rfl, fun i x hx j u hu => ?_⟩
  rw [List.getElem?_drop] at hx
  have := hc (k + i) x hx j u hu
  rw [Nat.add_mul] at this
  rw [← this]
  congr 2
  omega
theorem baLt_gt {x y : BA} (h : decide (x.code < y.code) = true) : baLt x y = true := baLt_iff.2 (.inl (of_decide_eq_true h))
theorem bL_of {a b : ByteArray} (h1 : Op.bytesLess b.toList a.toList = false) (h2 : (b.toList == a.toList) = false) : bL a b = true := by
  cases h : bL a b
  · exact absurd (bL_tri h1 h) (str_ne h2)
  · rfl
theorem baLt_ne {x y : BA} (h : decide (x.code < y.code) = false) (h2 : (y.code == x.code) = false) : baLt x y = false := by
  cases g : baLt x y
  · rfl
  · rcases baLt_iff.1 g with g | ⟨g, _⟩
    · exact absurd g (of_decide_eq_false h)
    · simp at h2; exact absurd g.symm h2
theorem baLt_ch {x y : BA} (h : decide (x.code < y.code) = false) (h2 : (y.code == x.code) = true) : baLt x y = bL x.ch y.ch := by
  have e : y.code = x.code := by simpa using h2
  unfold baLt
  rw [h, e]
  simp

set_option maxRecDepth 100000 in
set_option maxHeartbeats 8000000 in
theorem specSortBox_any (A : Option Addr) (n c : Nat) (l : List BA) (w : World) (ha : Rd baV 2 w A n c l) (hg : ∀ x ∈ l, BaSz x) :
    Calls Tryz.prog 22 #[.slice A n c] w fun e w' => (∃ B q d, e = .returned (.tuple #[.slice B q d, .bool (boxB l)]) ∧ Own baV 2 w' w.heap.size 42 B q d (srtL l)) ∧ Below w.heap.size w w' := by
  have W0 : Own baV 2 (w.alloc (.cells #[] 42)) w.heap.size 42 (some ⟨w.heap.size, 0, none⟩) 0 0 [] := Own.empty baV 2 w 42
  have b0 := below_alloc (w := w) (.cells #[] 42)
  cases h1 : boxB l
  · have E := Lib.hid (show srtL l = [] by simp [srtL, h1])
    go_enter Tryz.func22, Tryz.ntmps22
    go_wp2_with fail
    refine (l20Box_any _ _ _ l _ (ha.below b0) hg).mono ?_
    rintro e w1 ⟨rfl, b1⟩
    rw [h1]
    clear h1
    replace W0 := W0.below b1
    go_wp2
    go_ret2
    exact ⟨⟨_, _, _, rfl, by rw [E.out]; exact W0⟩, below_trans b0 b1⟩
  · have E := Lib.hid (show srtL l = sortB l by simp [srtL, h1])
    have hn : n ≤ 12 := by rw [← ha.len]; exact box_len h1
    have HL := Lib.hid ha.len
    obtain ⟨i0, ii, iz0, iz1, iz2⟩ := info_parts Tryz.infobaS
    have H1 := Lib.hid h1
    clear h1
    go_enter Tryz.func22, Tryz.ntmps22
    go_wp2_with fail
    refine (l20Box_any _ _ _ l _ (ha.below b0) hg).mono ?_
    rintro e w1 ⟨rfl, b1⟩
    rw [H1.out]
    replace W0 := W0.below b1
    have t1 := below_trans b0 b1
    clear b0 b1
    go_wp2
    go_loopw [4, 5] (fun v i wr => ∃ (j : Nat) (B : Option Addr) (q d : Nat) (m : List BA), i = .int .i64 j ∧ j ≤ n ∧ v = .slice B q d ∧ q = j ∧ Own baV 2 wr w.heap.size 42 B q d m ∧ Below w.heap.size w wr ∧ SrtTo l j m) (fun _ i _ => n - (intOf i).toNat)
    case atStart => exact ⟨0, _, 0, 0, [], rfl, Nat.zero_le _, rfl, rfl, W0, t1, srtTo_zero l⟩
    case round =>
      clear W0 t1
      obtain ⟨j, B, q, d, m, rfl, hj, rfl, hqj, ho, hbw, hS⟩ := hrel
      have SS := Lib.hid hS
      have HO := Lib.hid ho
      have hq : q ≤ 12 := by omega
      have HQ := Lib.hid hqj
      clear hS
      by_cases hlt : j < n
      · obtain ⟨b3, o3, x, rfl, hx, c0, c1⟩ := (ha.below hbw).ba hlt
        have X := Lib.hid hx
        have RA := Lib.hid ha
        have R := Lib.hid (ho.rd baV_len)
        have hcd := R.out.cap
        obtain ⟨wo, rfl⟩ : ∃ y : World, y = wr := ⟨_, rfl⟩
        clear hx ha ho hqj
        go_wp2
        go_loopw [6] (fun v wr => ∃ k : Nat, k ≤ q ∧ v = .int .i64 k ∧ Below wo.heap.size wo wr ∧ ∀ t a, k ≤ t → m[t]? = some a → baLt x a = true) (fun v _ => (intOf v).toNat)
        case atStart => exact ⟨q, Nat.le_refl _, rfl, Below.refl _ _, fun t a ht ha => by have h9 := (List.getElem?_eq_some_iff.1 ha).1; rw [HO.out.len] at h9; omega⟩
        case round =>
          obtain ⟨k, hk, rfl, hbi, hup⟩ := hrel
          have HU := Lib.hid hup
          replace c0 := cell_below hbi c0
          replace c1 := cell_below hbi c1
          clear hup
          by_cases hk0 : 0 < k
          · obtain ⟨z, rfl⟩ : ∃ z, k = z + 1 := ⟨k - 1, by omega⟩
            obtain ⟨b4, o4, y, rfl, hy, e0, e1⟩ := (R.out.below hbi).ba (i := z) (by omega)
            have Y := Lib.hid hy
            have hzi : ((z + 1 : Nat) : Int) - 1 = (z : Int) := by omega
            clear hy
            cases p1 : decide (x.code < y.code)
            · cases p2 : (y.code == x.code)
              · have N := Lib.hid (baLt_ne p1 p2)
                go_wp2_with fail
                go_quiet (fail)
                have hbx := below_trans hbi (below_drewB wr nq)
                have d0 := cell_below (below_drewB wr nq) c0
                have d1 := cell_below (below_drewB wr nq) c1
                generalize hwx : wr.drewN nq = wx at *
                clear hwx c0 c1
                obtain ⟨k, hkz⟩ : ∃ k : Nat, k = z + 1 := ⟨_, rfl⟩
                have NX := Lib.hid (srtTo_next (k := k) SS.out X.out (by rw [HO.out.len]; omega) (fun a _ ha' => by rw [hkz, show z + 1 - 1 = z from rfl, Y.out] at ha'; injection ha' with ha'; rw [← ha']; exact N.out) (by rw [hkz]; exact HU.out))
                have hkq : k ≤ q := by omega
                have hz1 : ((z : Int) + 1) = (k : Int) := by omega
                have hz2 : ((z + 1 : Nat) : Int) = (k : Int) := by omega
                first | rw [hz1] | rw [hz2]
                clear hkz hz1 hz2 hzi e0 e1 p1 p2 hk
                try clear g2
                try clear g1
                go_wp2_with fail
                have hki0 : (0 : Int) ≤ (k : Int) := by omega
                have hkd0 : (k : Int) ≤ (d : Int) := by omega
                have hkq0 : (k : Int) ≤ (q : Int) := by omega
                have hj0 : (0 : Int) ≤ (j : Int) := by omega
                have hjn : (j : Int) < (n : Int) := by omega
                have RT := Lib.hid ((R.out.below hbx).take' (k := k) hkq)
                have d0a := cell_below (below_alloc (w := wx) (.cells #[] 42)) d0
                have d1a := cell_below (below_alloc (w := wx) (.cells #[] 42)) d1
                by_cases hkd : d = k
                · obtain rfl : k = d := hkd.symm
                  obtain rfl : k = q := by omega
                  have RD' := (R.out.below hbx).tail (k := k) hkq
                  rw [show tailA (some ⟨b4, o4, none⟩) k k (k * 2) = (some ⟨b4, o4, none⟩) from if_pos rfl, Nat.sub_self] at RD'
                  have RD := Lib.hid RD'
                  clear RD' hkd0 hkq0
                  go_region_law (first
                    | (refine step_pushAll rfl (.tmp 66) (.tmp 69) _ rfl wx.heap.size 42 i0 (.agg #[.int .i64 0, .string ByteArray.empty]) 2 24 Tryz.underlying24 ii iz0 iz1 iz2 rfl (by omega) baV baV_len one_baS  _ 0 0 [] _ k k (m.take k) rfl rfl k (by omega) (by simp only [maxLen]; omega) (by omega) (by first | omega | (simp; done) | (simp; omega)) ?_ ?_ ?_
                       · exact Own.of_block (by first | exact heap_new (by simp) | exact heap_old (heap_new (by simp)) | exact heap_old (heap_old (heap_new (by simp)))) (by first | omega | (simp; done) | (simp; omega))
                       · first | exact (RT.out.alloc _).drew | exact ((RT.out.alloc _).alloc _).drew | exact (((RT.out.alloc _).alloc _).alloc _).drew
                       intro B1 dq1 w1 o1 g1
                       have s1 : wx.heap.size ≤ w1.heap.size := by have := g1.size; simp at this; omega
                       have b1 : Below wx.heap.size wx w1 := (by first | exact (below_alloc _).drew | exact (below_alloc2 _ _).drew | exact (below_alloc3 _ _ _).drew : Below wx.heap.size wx _).grown g1 (by first | omega | (simp; done) | (simp; omega)) (fun k hk => by simp [blockOf] at hk; omega)
                       have d0 := cell_below b1 d0
                       have d1 := cell_below b1 d1)
                    | (refine step_pushAll rfl (.tmp 70) (.tmp 75) _ rfl wx.heap.size 42 i0 (.agg #[.int .i64 0, .string ByteArray.empty]) 2 24 Tryz.underlying24 ii iz0 iz1 iz2 rfl (by omega) baV baV_len one_baS  _ k _ (m.take k) _ 1 1 [x] rfl rfl (k + 1) rfl (by simp only [maxLen]; omega) (by omega) (by first | omega | (simp; omega)) ?_ ?_ ?_
                       · first | exact o1 | exact o1.alloc _
                       · first | exact Rd.of_block (heap_new (by simp)) rfl | exact Rd.of_block (heap_grown g1 (by first | exact heap_new (by simp) | exact heap_old (heap_new (by simp)) | exact heap_old (heap_old (heap_new (by simp)))) (by simp [blockOf] <;> omega)) rfl
                       intro B2 dq2 w2 o2 g2
                       have b2 : Below wx.heap.size wx w2 := by first | exact below_push b1 o1 g2 (Nat.le_refl _) | exact below_push (below_trans b1 (below_alloc _)) (o1.alloc _) g2 (Nat.le_refl _))
                    | (refine step_pushAll rfl (.tmp 76) (.tmp 79) _ rfl wx.heap.size 42 i0 (.agg #[.int .i64 0, .string ByteArray.empty]) 2 24 Tryz.underlying24 ii iz0 iz1 iz2 rfl (by omega) baV baV_len one_baS  _ (k + 1) _ (m.take k ++ [x]) (some ⟨b4, o4, none⟩) 0 0 (m.drop k) rfl rfl (k + 1) (by omega) (by simp only [maxLen]; omega) (by omega) (by have := b2.size; omega) ?_ ?_ ?_
                       · exact o2
                       · exact RD.out.below b2
                       intro B3 dq3 w3 o3 g3
                       have b3 : Below wx.heap.size wx w3 := below_push b2 o2 g3 (Nat.le_refl _)))
                  all_goals
                    have O8 := Lib.hid o3
                    clear o3 o2 o1
                    go_wp2
                    go_roundw
                    case rel => exact ⟨j + 1, B3, _, dq3, _, by go_num, by omega, rfl, by rw [HQ.out], O8.out.base_le (Nat.le_trans hbw.size hbx.size), below_trans (below_trans hbw hbx) b3, by simpa [insP] using NX.out⟩
                    case measure => first | (simp [intOf]; done) | (simp [intOf]; omega)
                · have RD := Lib.hid ((R.out.below hbx).dropB (k := k) hkq)
                  go_region_law (first
                    | (refine step_pushAll rfl (.tmp 66) (.tmp 69) _ rfl wx.heap.size 42 i0 (.agg #[.int .i64 0, .string ByteArray.empty]) 2 24 Tryz.underlying24 ii iz0 iz1 iz2 rfl (by omega) baV baV_len one_baS  _ 0 0 [] _ k d (m.take k) rfl rfl k (by omega) (by simp only [maxLen]; omega) (by omega) (by first | omega | (simp; done) | (simp; omega)) ?_ ?_ ?_
                       · exact Own.of_block (by first | exact heap_new (by simp) | exact heap_old (heap_new (by simp)) | exact heap_old (heap_old (heap_new (by simp)))) (by first | omega | (simp; done) | (simp; omega))
                       · first | exact (RT.out.alloc _).drew | exact ((RT.out.alloc _).alloc _).drew | exact (((RT.out.alloc _).alloc _).alloc _).drew
                       intro B1 dq1 w1 o1 g1
                       have s1 : wx.heap.size ≤ w1.heap.size := by have := g1.size; simp at this; omega
                       have b1 : Below wx.heap.size wx w1 := (by first | exact (below_alloc _).drew | exact (below_alloc2 _ _).drew | exact (below_alloc3 _ _ _).drew : Below wx.heap.size wx _).grown g1 (by first | omega | (simp; done) | (simp; omega)) (fun k hk => by simp [blockOf] at hk; omega)
                       have d0 := cell_below b1 d0
                       have d1 := cell_below b1 d1)
                    | (refine step_pushAll rfl (.tmp 70) (.tmp 75) _ rfl wx.heap.size 42 i0 (.agg #[.int .i64 0, .string ByteArray.empty]) 2 24 Tryz.underlying24 ii iz0 iz1 iz2 rfl (by omega) baV baV_len one_baS  _ k _ (m.take k) _ 1 1 [x] rfl rfl (k + 1) rfl (by simp only [maxLen]; omega) (by omega) (by first | omega | (simp; omega)) ?_ ?_ ?_
                       · first | exact o1 | exact o1.alloc _
                       · first | exact Rd.of_block (heap_new (by simp)) rfl | exact Rd.of_block (heap_grown g1 (by first | exact heap_new (by simp) | exact heap_old (heap_new (by simp)) | exact heap_old (heap_old (heap_new (by simp)))) (by simp [blockOf] <;> omega)) rfl
                       intro B2 dq2 w2 o2 g2
                       have b2 : Below wx.heap.size wx w2 := by first | exact below_push b1 o1 g2 (Nat.le_refl _) | exact below_push (below_trans b1 (below_alloc _)) (o1.alloc _) g2 (Nat.le_refl _))
                    | (refine step_pushAll rfl (.tmp 76) (.tmp 79) _ rfl wx.heap.size 42 i0 (.agg #[.int .i64 0, .string ByteArray.empty]) 2 24 Tryz.underlying24 ii iz0 iz1 iz2 rfl (by omega) baV baV_len one_baS  _ (k + 1) _ (m.take k ++ [x]) (some ⟨b4, o4 + k * 2, none⟩) (q - k) (d - k) (m.drop k) rfl rfl (q + 1) (by omega) (by simp only [maxLen]; omega) (by omega) (by have := b2.size; omega) ?_ ?_ ?_
                       · exact o2
                       · exact RD.out.below b2
                       intro B3 dq3 w3 o3 g3
                       have b3 : Below wx.heap.size wx w3 := below_push b2 o2 g3 (Nat.le_refl _)))
                  all_goals
                    have O8 := Lib.hid o3
                    clear o3 o2 o1
                    go_wp2
                    go_roundw
                    case rel => exact ⟨j + 1, B3, _, dq3, _, by go_num, by omega, rfl, by rw [HQ.out], O8.out.base_le (Nat.le_trans hbw.size hbx.size), below_trans (below_trans hbw hbx) b3, by simpa [insP] using NX.out⟩
                    case measure => first | (simp [intOf]; done) | (simp [intOf]; omega)
              · cases g1 : Op.bytesLess y.ch.toList x.ch.toList
                · cases g2 : (y.ch.toList == x.ch.toList)
                  · have N : Hid (baLt x y = true) := (baLt_ch p1 p2).trans (bL_of g1 g2)
                    go_wp2_with fail
                    go_quiet (fail)
                    have hbx := below_trans hbi (below_drewB wr nq)
                    have d0 := cell_below (below_drewB wr nq) c0
                    have d1 := cell_below (below_drewB wr nq) c1
                    generalize hwx : wr.drewN nq = wx at *
                    clear hwx c0 c1
                    go_wp2
                    go_roundw
                    case rel => exact ⟨z, by omega, by go_num, hbx, fun t a ht ha' => by
                        by_cases e : t = z
                        · subst e; rw [Y.out] at ha'; injection ha' with ha'; rw [← ha']; exact N.out
                        · exact HU.out t a (by omega) ha'⟩
                    case measure => first | (simp [intOf]; done) | (simp [intOf]; omega)
                  · have N : Hid (baLt x y = false) := (baLt_ch p1 p2).trans (by rw [str_eq g2]; exact bL_irr _)
                    go_wp2_with fail
                    go_quiet (fail)
                    have hbx := below_trans hbi (below_drewB wr nq)
                    have d0 := cell_below (below_drewB wr nq) c0
                    have d1 := cell_below (below_drewB wr nq) c1
                    generalize hwx : wr.drewN nq = wx at *
                    clear hwx c0 c1
                    obtain ⟨k, hkz⟩ : ∃ k : Nat, k = z + 1 := ⟨_, rfl⟩
                    have NX := Lib.hid (srtTo_next (k := k) SS.out X.out (by rw [HO.out.len]; omega) (fun a _ ha' => by rw [hkz, show z + 1 - 1 = z from rfl, Y.out] at ha'; injection ha' with ha'; rw [← ha']; exact N.out) (by rw [hkz]; exact HU.out))
                    have hkq : k ≤ q := by omega
                    have hz1 : ((z : Int) + 1) = (k : Int) := by omega
                    have hz2 : ((z + 1 : Nat) : Int) = (k : Int) := by omega
                    first | rw [hz1] | rw [hz2]
                    clear hkz hz1 hz2 hzi e0 e1 p1 p2 hk
                    try clear g2
                    try clear g1
                    go_wp2_with fail
                    have hki0 : (0 : Int) ≤ (k : Int) := by omega
                    have hkd0 : (k : Int) ≤ (d : Int) := by omega
                    have hkq0 : (k : Int) ≤ (q : Int) := by omega
                    have hj0 : (0 : Int) ≤ (j : Int) := by omega
                    have hjn : (j : Int) < (n : Int) := by omega
                    have RT := Lib.hid ((R.out.below hbx).take' (k := k) hkq)
                    have d0a := cell_below (below_alloc (w := wx) (.cells #[] 42)) d0
                    have d1a := cell_below (below_alloc (w := wx) (.cells #[] 42)) d1
                    by_cases hkd : d = k
                    · obtain rfl : k = d := hkd.symm
                      obtain rfl : k = q := by omega
                      have RD' := (R.out.below hbx).tail (k := k) hkq
                      rw [show tailA (some ⟨b4, o4, none⟩) k k (k * 2) = (some ⟨b4, o4, none⟩) from if_pos rfl, Nat.sub_self] at RD'
                      have RD := Lib.hid RD'
                      clear RD' hkd0 hkq0
                      go_region_law (first
                        | (refine step_pushAll rfl (.tmp 66) (.tmp 69) _ rfl wx.heap.size 42 i0 (.agg #[.int .i64 0, .string ByteArray.empty]) 2 24 Tryz.underlying24 ii iz0 iz1 iz2 rfl (by omega) baV baV_len one_baS  _ 0 0 [] _ k k (m.take k) rfl rfl k (by omega) (by simp only [maxLen]; omega) (by omega) (by first | omega | (simp; done) | (simp; omega)) ?_ ?_ ?_
                           · exact Own.of_block (by first | exact heap_new (by simp) | exact heap_old (heap_new (by simp)) | exact heap_old (heap_old (heap_new (by simp)))) (by first | omega | (simp; done) | (simp; omega))
                           · first | exact (RT.out.alloc _).drew | exact ((RT.out.alloc _).alloc _).drew | exact (((RT.out.alloc _).alloc _).alloc _).drew
                           intro B1 dq1 w1 o1 g1
                           have s1 : wx.heap.size ≤ w1.heap.size := by have := g1.size; simp at this; omega
                           have b1 : Below wx.heap.size wx w1 := (by first | exact (below_alloc _).drew | exact (below_alloc2 _ _).drew | exact (below_alloc3 _ _ _).drew : Below wx.heap.size wx _).grown g1 (by first | omega | (simp; done) | (simp; omega)) (fun k hk => by simp [blockOf] at hk; omega)
                           have d0 := cell_below b1 d0
                           have d1 := cell_below b1 d1)
                        | (refine step_pushAll rfl (.tmp 70) (.tmp 75) _ rfl wx.heap.size 42 i0 (.agg #[.int .i64 0, .string ByteArray.empty]) 2 24 Tryz.underlying24 ii iz0 iz1 iz2 rfl (by omega) baV baV_len one_baS  _ k _ (m.take k) _ 1 1 [x] rfl rfl (k + 1) rfl (by simp only [maxLen]; omega) (by omega) (by first | omega | (simp; omega)) ?_ ?_ ?_
                           · first | exact o1 | exact o1.alloc _
                           · first | exact Rd.of_block (heap_new (by simp)) rfl | exact Rd.of_block (heap_grown g1 (by first | exact heap_new (by simp) | exact heap_old (heap_new (by simp)) | exact heap_old (heap_old (heap_new (by simp)))) (by simp [blockOf] <;> omega)) rfl
                           intro B2 dq2 w2 o2 g2
                           have b2 : Below wx.heap.size wx w2 := by first | exact below_push b1 o1 g2 (Nat.le_refl _) | exact below_push (below_trans b1 (below_alloc _)) (o1.alloc _) g2 (Nat.le_refl _))
                        | (refine step_pushAll rfl (.tmp 76) (.tmp 79) _ rfl wx.heap.size 42 i0 (.agg #[.int .i64 0, .string ByteArray.empty]) 2 24 Tryz.underlying24 ii iz0 iz1 iz2 rfl (by omega) baV baV_len one_baS  _ (k + 1) _ (m.take k ++ [x]) (some ⟨b4, o4, none⟩) 0 0 (m.drop k) rfl rfl (k + 1) (by omega) (by simp only [maxLen]; omega) (by omega) (by have := b2.size; omega) ?_ ?_ ?_
                           · exact o2
                           · exact RD.out.below b2
                           intro B3 dq3 w3 o3 g3
                           have b3 : Below wx.heap.size wx w3 := below_push b2 o2 g3 (Nat.le_refl _)))
                      all_goals
                        have O8 := Lib.hid o3
                        clear o3 o2 o1
                        go_wp2
                        go_roundw
                        case rel => exact ⟨j + 1, B3, _, dq3, _, by go_num, by omega, rfl, by rw [HQ.out], O8.out.base_le (Nat.le_trans hbw.size hbx.size), below_trans (below_trans hbw hbx) b3, by simpa [insP] using NX.out⟩
                        case measure => first | (simp [intOf]; done) | (simp [intOf]; omega)
                    · have RD := Lib.hid ((R.out.below hbx).dropB (k := k) hkq)
                      go_region_law (first
                        | (refine step_pushAll rfl (.tmp 66) (.tmp 69) _ rfl wx.heap.size 42 i0 (.agg #[.int .i64 0, .string ByteArray.empty]) 2 24 Tryz.underlying24 ii iz0 iz1 iz2 rfl (by omega) baV baV_len one_baS  _ 0 0 [] _ k d (m.take k) rfl rfl k (by omega) (by simp only [maxLen]; omega) (by omega) (by first | omega | (simp; done) | (simp; omega)) ?_ ?_ ?_
                           · exact Own.of_block (by first | exact heap_new (by simp) | exact heap_old (heap_new (by simp)) | exact heap_old (heap_old (heap_new (by simp)))) (by first | omega | (simp; done) | (simp; omega))
                           · first | exact (RT.out.alloc _).drew | exact ((RT.out.alloc _).alloc _).drew | exact (((RT.out.alloc _).alloc _).alloc _).drew
                           intro B1 dq1 w1 o1 g1
                           have s1 : wx.heap.size ≤ w1.heap.size := by have := g1.size; simp at this; omega
                           have b1 : Below wx.heap.size wx w1 := (by first | exact (below_alloc _).drew | exact (below_alloc2 _ _).drew | exact (below_alloc3 _ _ _).drew : Below wx.heap.size wx _).grown g1 (by first | omega | (simp; done) | (simp; omega)) (fun k hk => by simp [blockOf] at hk; omega)
                           have d0 := cell_below b1 d0
                           have d1 := cell_below b1 d1)
                        | (refine step_pushAll rfl (.tmp 70) (.tmp 75) _ rfl wx.heap.size 42 i0 (.agg #[.int .i64 0, .string ByteArray.empty]) 2 24 Tryz.underlying24 ii iz0 iz1 iz2 rfl (by omega) baV baV_len one_baS  _ k _ (m.take k) _ 1 1 [x] rfl rfl (k + 1) rfl (by simp only [maxLen]; omega) (by omega) (by first | omega | (simp; omega)) ?_ ?_ ?_
                           · first | exact o1 | exact o1.alloc _
                           · first | exact Rd.of_block (heap_new (by simp)) rfl | exact Rd.of_block (heap_grown g1 (by first | exact heap_new (by simp) | exact heap_old (heap_new (by simp)) | exact heap_old (heap_old (heap_new (by simp)))) (by simp [blockOf] <;> omega)) rfl
                           intro B2 dq2 w2 o2 g2
                           have b2 : Below wx.heap.size wx w2 := by first | exact below_push b1 o1 g2 (Nat.le_refl _) | exact below_push (below_trans b1 (below_alloc _)) (o1.alloc _) g2 (Nat.le_refl _))
                        | (refine step_pushAll rfl (.tmp 76) (.tmp 79) _ rfl wx.heap.size 42 i0 (.agg #[.int .i64 0, .string ByteArray.empty]) 2 24 Tryz.underlying24 ii iz0 iz1 iz2 rfl (by omega) baV baV_len one_baS  _ (k + 1) _ (m.take k ++ [x]) (some ⟨b4, o4 + k * 2, none⟩) (q - k) (d - k) (m.drop k) rfl rfl (q + 1) (by omega) (by simp only [maxLen]; omega) (by omega) (by have := b2.size; omega) ?_ ?_ ?_
                           · exact o2
                           · exact RD.out.below b2
                           intro B3 dq3 w3 o3 g3
                           have b3 : Below wx.heap.size wx w3 := below_push b2 o2 g3 (Nat.le_refl _)))
                      all_goals
                        have O8 := Lib.hid o3
                        clear o3 o2 o1
                        go_wp2
                        go_roundw
                        case rel => exact ⟨j + 1, B3, _, dq3, _, by go_num, by omega, rfl, by rw [HQ.out], O8.out.base_le (Nat.le_trans hbw.size hbx.size), below_trans (below_trans hbw hbx) b3, by simpa [insP] using NX.out⟩
                        case measure => first | (simp [intOf]; done) | (simp [intOf]; omega)
                · have N : Hid (baLt x y = false) := (baLt_ch p1 p2).trans (bL_asym g1)
                  go_wp2_with fail
                  go_quiet (fail)
                  have hbx := below_trans hbi (below_drewB wr nq)
                  have d0 := cell_below (below_drewB wr nq) c0
                  have d1 := cell_below (below_drewB wr nq) c1
                  generalize hwx : wr.drewN nq = wx at *
                  clear hwx c0 c1
                  obtain ⟨k, hkz⟩ : ∃ k : Nat, k = z + 1 := ⟨_, rfl⟩
                  have NX := Lib.hid (srtTo_next (k := k) SS.out X.out (by rw [HO.out.len]; omega) (fun a _ ha' => by rw [hkz, show z + 1 - 1 = z from rfl, Y.out] at ha'; injection ha' with ha'; rw [← ha']; exact N.out) (by rw [hkz]; exact HU.out))
                  have hkq : k ≤ q := by omega
                  have hz1 : ((z : Int) + 1) = (k : Int) := by omega
                  have hz2 : ((z + 1 : Nat) : Int) = (k : Int) := by omega
                  first | rw [hz1] | rw [hz2]
                  clear hkz hz1 hz2 hzi e0 e1 p1 p2 hk
                  try clear g2
                  try clear g1
                  go_wp2_with fail
                  have hki0 : (0 : Int) ≤ (k : Int) := by omega
                  have hkd0 : (k : Int) ≤ (d : Int) := by omega
                  have hkq0 : (k : Int) ≤ (q : Int) := by omega
                  have hj0 : (0 : Int) ≤ (j : Int) := by omega
                  have hjn : (j : Int) < (n : Int) := by omega
                  have RT := Lib.hid ((R.out.below hbx).take' (k := k) hkq)
                  have d0a := cell_below (below_alloc (w := wx) (.cells #[] 42)) d0
                  have d1a := cell_below (below_alloc (w := wx) (.cells #[] 42)) d1
                  by_cases hkd : d = k
                  · obtain rfl : k = d := hkd.symm
                    obtain rfl : k = q := by omega
                    have RD' := (R.out.below hbx).tail (k := k) hkq
                    rw [show tailA (some ⟨b4, o4, none⟩) k k (k * 2) = (some ⟨b4, o4, none⟩) from if_pos rfl, Nat.sub_self] at RD'
                    have RD := Lib.hid RD'
                    clear RD' hkd0 hkq0
                    go_region_law (first
                      | (refine step_pushAll rfl (.tmp 66) (.tmp 69) _ rfl wx.heap.size 42 i0 (.agg #[.int .i64 0, .string ByteArray.empty]) 2 24 Tryz.underlying24 ii iz0 iz1 iz2 rfl (by omega) baV baV_len one_baS  _ 0 0 [] _ k k (m.take k) rfl rfl k (by omega) (by simp only [maxLen]; omega) (by omega) (by first | omega | (simp; done) | (simp; omega)) ?_ ?_ ?_
                         · exact Own.of_block (by first | exact heap_new (by simp) | exact heap_old (heap_new (by simp)) | exact heap_old (heap_old (heap_new (by simp)))) (by first | omega | (simp; done) | (simp; omega))
                         · first | exact (RT.out.alloc _).drew | exact ((RT.out.alloc _).alloc _).drew | exact (((RT.out.alloc _).alloc _).alloc _).drew
                         intro B1 dq1 w1 o1 g1
                         have s1 : wx.heap.size ≤ w1.heap.size := by have := g1.size; simp at this; omega
                         have b1 : Below wx.heap.size wx w1 := (by first | exact (below_alloc _).drew | exact (below_alloc2 _ _).drew | exact (below_alloc3 _ _ _).drew : Below wx.heap.size wx _).grown g1 (by first | omega | (simp; done) | (simp; omega)) (fun k hk => by simp [blockOf] at hk; omega)
                         have d0 := cell_below b1 d0
                         have d1 := cell_below b1 d1)
                      | (refine step_pushAll rfl (.tmp 70) (.tmp 75) _ rfl wx.heap.size 42 i0 (.agg #[.int .i64 0, .string ByteArray.empty]) 2 24 Tryz.underlying24 ii iz0 iz1 iz2 rfl (by omega) baV baV_len one_baS  _ k _ (m.take k) _ 1 1 [x] rfl rfl (k + 1) rfl (by simp only [maxLen]; omega) (by omega) (by first | omega | (simp; omega)) ?_ ?_ ?_
                         · first | exact o1 | exact o1.alloc _
                         · first | exact Rd.of_block (heap_new (by simp)) rfl | exact Rd.of_block (heap_grown g1 (by first | exact heap_new (by simp) | exact heap_old (heap_new (by simp)) | exact heap_old (heap_old (heap_new (by simp)))) (by simp [blockOf] <;> omega)) rfl
                         intro B2 dq2 w2 o2 g2
                         have b2 : Below wx.heap.size wx w2 := by first | exact below_push b1 o1 g2 (Nat.le_refl _) | exact below_push (below_trans b1 (below_alloc _)) (o1.alloc _) g2 (Nat.le_refl _))
                      | (refine step_pushAll rfl (.tmp 76) (.tmp 79) _ rfl wx.heap.size 42 i0 (.agg #[.int .i64 0, .string ByteArray.empty]) 2 24 Tryz.underlying24 ii iz0 iz1 iz2 rfl (by omega) baV baV_len one_baS  _ (k + 1) _ (m.take k ++ [x]) (some ⟨b4, o4, none⟩) 0 0 (m.drop k) rfl rfl (k + 1) (by omega) (by simp only [maxLen]; omega) (by omega) (by have := b2.size; omega) ?_ ?_ ?_
                         · exact o2
                         · exact RD.out.below b2
                         intro B3 dq3 w3 o3 g3
                         have b3 : Below wx.heap.size wx w3 := below_push b2 o2 g3 (Nat.le_refl _)))
                    all_goals
                      have O8 := Lib.hid o3
                      clear o3 o2 o1
                      go_wp2
                      go_roundw
                      case rel => exact ⟨j + 1, B3, _, dq3, _, by go_num, by omega, rfl, by rw [HQ.out], O8.out.base_le (Nat.le_trans hbw.size hbx.size), below_trans (below_trans hbw hbx) b3, by simpa [insP] using NX.out⟩
                      case measure => first | (simp [intOf]; done) | (simp [intOf]; omega)
                  · have RD := Lib.hid ((R.out.below hbx).dropB (k := k) hkq)
                    go_region_law (first
                      | (refine step_pushAll rfl (.tmp 66) (.tmp 69) _ rfl wx.heap.size 42 i0 (.agg #[.int .i64 0, .string ByteArray.empty]) 2 24 Tryz.underlying24 ii iz0 iz1 iz2 rfl (by omega) baV baV_len one_baS  _ 0 0 [] _ k d (m.take k) rfl rfl k (by omega) (by simp only [maxLen]; omega) (by omega) (by first | omega | (simp; done) | (simp; omega)) ?_ ?_ ?_
                         · exact Own.of_block (by first | exact heap_new (by simp) | exact heap_old (heap_new (by simp)) | exact heap_old (heap_old (heap_new (by simp)))) (by first | omega | (simp; done) | (simp; omega))
                         · first | exact (RT.out.alloc _).drew | exact ((RT.out.alloc _).alloc _).drew | exact (((RT.out.alloc _).alloc _).alloc _).drew
                         intro B1 dq1 w1 o1 g1
                         have s1 : wx.heap.size ≤ w1.heap.size := by have := g1.size; simp at this; omega
                         have b1 : Below wx.heap.size wx w1 := (by first | exact (below_alloc _).drew | exact (below_alloc2 _ _).drew | exact (below_alloc3 _ _ _).drew : Below wx.heap.size wx _).grown g1 (by first | omega | (simp; done) | (simp; omega)) (fun k hk => by simp [blockOf] at hk; omega)
                         have d0 := cell_below b1 d0
                         have d1 := cell_below b1 d1)
                      | (refine step_pushAll rfl (.tmp 70) (.tmp 75) _ rfl wx.heap.size 42 i0 (.agg #[.int .i64 0, .string ByteArray.empty]) 2 24 Tryz.underlying24 ii iz0 iz1 iz2 rfl (by omega) baV baV_len one_baS  _ k _ (m.take k) _ 1 1 [x] rfl rfl (k + 1) rfl (by simp only [maxLen]; omega) (by omega) (by first | omega | (simp; omega)) ?_ ?_ ?_
                         · first | exact o1 | exact o1.alloc _
                         · first | exact Rd.of_block (heap_new (by simp)) rfl | exact Rd.of_block (heap_grown g1 (by first | exact heap_new (by simp) | exact heap_old (heap_new (by simp)) | exact heap_old (heap_old (heap_new (by simp)))) (by simp [blockOf] <;> omega)) rfl
                         intro B2 dq2 w2 o2 g2
                         have b2 : Below wx.heap.size wx w2 := by first | exact below_push b1 o1 g2 (Nat.le_refl _) | exact below_push (below_trans b1 (below_alloc _)) (o1.alloc _) g2 (Nat.le_refl _))
                      | (refine step_pushAll rfl (.tmp 76) (.tmp 79) _ rfl wx.heap.size 42 i0 (.agg #[.int .i64 0, .string ByteArray.empty]) 2 24 Tryz.underlying24 ii iz0 iz1 iz2 rfl (by omega) baV baV_len one_baS  _ (k + 1) _ (m.take k ++ [x]) (some ⟨b4, o4 + k * 2, none⟩) (q - k) (d - k) (m.drop k) rfl rfl (q + 1) (by omega) (by simp only [maxLen]; omega) (by omega) (by have := b2.size; omega) ?_ ?_ ?_
                         · exact o2
                         · exact RD.out.below b2
                         intro B3 dq3 w3 o3 g3
                         have b3 : Below wx.heap.size wx w3 := below_push b2 o2 g3 (Nat.le_refl _)))
                    all_goals
                      have O8 := Lib.hid o3
                      clear o3 o2 o1
                      go_wp2
                      go_roundw
                      case rel => exact ⟨j + 1, B3, _, dq3, _, by go_num, by omega, rfl, by rw [HQ.out], O8.out.base_le (Nat.le_trans hbw.size hbx.size), below_trans (below_trans hbw hbx) b3, by simpa [insP] using NX.out⟩
                      case measure => first | (simp [intOf]; done) | (simp [intOf]; omega)
            · have N := Lib.hid (baLt_gt p1)
              go_wp2_with fail
              go_quiet (fail)
              have hbx := below_trans hbi (below_drewB wr nq)
              have d0 := cell_below (below_drewB wr nq) c0
              have d1 := cell_below (below_drewB wr nq) c1
              generalize hwx : wr.drewN nq = wx at *
              clear hwx c0 c1
              go_wp2
              go_roundw
              case rel => exact ⟨z, by omega, by go_num, hbx, fun t a ht ha' => by
                  by_cases e : t = z
                  · subst e; rw [Y.out] at ha'; injection ha' with ha'; rw [← ha']; exact N.out
                  · exact HU.out t a (by omega) ha'⟩
              case measure => first | (simp [intOf]; done) | (simp [intOf]; omega)
          · have hk00 : True := trivial
            go_wp2_with fail
            go_quiet (fail)
            have hbx := below_trans hbi (below_drewB wr nq)
            have d0 := cell_below (below_drewB wr nq) c0
            have d1 := cell_below (below_drewB wr nq) c1
            generalize hwx : wr.drewN nq = wx at *
            clear hwx c0 c1
            have NX := Lib.hid (srtTo_next (k := k) SS.out X.out (by rw [HO.out.len]; omega) (fun a h0 => absurd h0 hk0) HU.out)
            have hkq : k ≤ q := hk
            clear hk0 hk
            go_wp2_with fail
            have hki0 : (0 : Int) ≤ (k : Int) := by omega
            have hkd0 : (k : Int) ≤ (d : Int) := by omega
            have hkq0 : (k : Int) ≤ (q : Int) := by omega
            have hj0 : (0 : Int) ≤ (j : Int) := by omega
            have hjn : (j : Int) < (n : Int) := by omega
            have RT := Lib.hid ((R.out.below hbx).take' (k := k) hkq)
            have d0a := cell_below (below_alloc (w := wx) (.cells #[] 42)) d0
            have d1a := cell_below (below_alloc (w := wx) (.cells #[] 42)) d1
            by_cases hkd : d = k
            · obtain rfl : k = d := hkd.symm
              obtain rfl : k = q := by omega
              have RD' := (R.out.below hbx).tail (k := k) hkq
              rw [show tailA B k k (k * 2) = B from if_pos rfl, Nat.sub_self] at RD'
              have RD := Lib.hid RD'
              clear RD' hkd0 hkq0
              go_region_law (first
                | (refine step_pushAll rfl (.tmp 66) (.tmp 69) _ rfl wx.heap.size 42 i0 (.agg #[.int .i64 0, .string ByteArray.empty]) 2 24 Tryz.underlying24 ii iz0 iz1 iz2 rfl (by omega) baV baV_len one_baS  _ 0 0 [] _ k k (m.take k) rfl rfl k (by omega) (by simp only [maxLen]; omega) (by omega) (by first | omega | (simp; done) | (simp; omega)) ?_ ?_ ?_
                   · exact Own.of_block (by first | exact heap_new (by simp) | exact heap_old (heap_new (by simp)) | exact heap_old (heap_old (heap_new (by simp)))) (by first | omega | (simp; done) | (simp; omega))
                   · first | exact (RT.out.alloc _).drew | exact ((RT.out.alloc _).alloc _).drew | exact (((RT.out.alloc _).alloc _).alloc _).drew
                   intro B1 dq1 w1 o1 g1
                   have s1 : wx.heap.size ≤ w1.heap.size := by have := g1.size; simp at this; omega
                   have b1 : Below wx.heap.size wx w1 := (by first | exact (below_alloc _).drew | exact (below_alloc2 _ _).drew | exact (below_alloc3 _ _ _).drew : Below wx.heap.size wx _).grown g1 (by first | omega | (simp; done) | (simp; omega)) (fun k hk => by simp [blockOf] at hk; omega)
                   have d0 := cell_below b1 d0
                   have d1 := cell_below b1 d1)
                | (refine step_pushAll rfl (.tmp 70) (.tmp 75) _ rfl wx.heap.size 42 i0 (.agg #[.int .i64 0, .string ByteArray.empty]) 2 24 Tryz.underlying24 ii iz0 iz1 iz2 rfl (by omega) baV baV_len one_baS  _ k _ (m.take k) _ 1 1 [x] rfl rfl (k + 1) rfl (by simp only [maxLen]; omega) (by omega) (by first | omega | (simp; omega)) ?_ ?_ ?_
                   · first | exact o1 | exact o1.alloc _
                   · first | exact Rd.of_block (heap_new (by simp)) rfl | exact Rd.of_block (heap_grown g1 (by first | exact heap_new (by simp) | exact heap_old (heap_new (by simp)) | exact heap_old (heap_old (heap_new (by simp)))) (by simp [blockOf] <;> omega)) rfl
                   intro B2 dq2 w2 o2 g2
                   have b2 : Below wx.heap.size wx w2 := by first | exact below_push b1 o1 g2 (Nat.le_refl _) | exact below_push (below_trans b1 (below_alloc _)) (o1.alloc _) g2 (Nat.le_refl _))
                | (refine step_pushAll rfl (.tmp 76) (.tmp 79) _ rfl wx.heap.size 42 i0 (.agg #[.int .i64 0, .string ByteArray.empty]) 2 24 Tryz.underlying24 ii iz0 iz1 iz2 rfl (by omega) baV baV_len one_baS  _ (k + 1) _ (m.take k ++ [x]) B 0 0 (m.drop k) rfl rfl (k + 1) (by omega) (by simp only [maxLen]; omega) (by omega) (by have := b2.size; omega) ?_ ?_ ?_
                   · exact o2
                   · exact RD.out.below b2
                   intro B3 dq3 w3 o3 g3
                   have b3 : Below wx.heap.size wx w3 := below_push b2 o2 g3 (Nat.le_refl _)))
              all_goals
                have O8 := Lib.hid o3
                clear o3 o2 o1
                go_wp2
                go_roundw
                case rel => exact ⟨j + 1, B3, _, dq3, _, by go_num, by omega, rfl, by rw [HQ.out], O8.out.base_le (Nat.le_trans hbw.size hbx.size), below_trans (below_trans hbw hbx) b3, by simpa [insP] using NX.out⟩
                case measure => first | (simp [intOf]; done) | (simp [intOf]; omega)
            · have RD' := (R.out.below hbx).tail (k := k) hkq
              obtain ⟨TA, IF⟩ : ∃ T, tailA B d k (k * 2) = T := ⟨_, rfl⟩
              rw [IF] at RD'
              have RD := Lib.hid RD'
              clear RD'
              unfold tailA at IF
              rw [if_neg hkd] at IF
              go_region_law (first
                | (refine step_pushAll rfl (.tmp 66) (.tmp 69) _ rfl wx.heap.size 42 i0 (.agg #[.int .i64 0, .string ByteArray.empty]) 2 24 Tryz.underlying24 ii iz0 iz1 iz2 rfl (by omega) baV baV_len one_baS  _ 0 0 [] _ k d (m.take k) rfl rfl k (by omega) (by simp only [maxLen]; omega) (by omega) (by first | omega | (simp; done) | (simp; omega)) ?_ ?_ ?_
                   · exact Own.of_block (by first | exact heap_new (by simp) | exact heap_old (heap_new (by simp)) | exact heap_old (heap_old (heap_new (by simp)))) (by first | omega | (simp; done) | (simp; omega))
                   · first | exact (RT.out.alloc _).drew | exact ((RT.out.alloc _).alloc _).drew | exact (((RT.out.alloc _).alloc _).alloc _).drew
                   intro B1 dq1 w1 o1 g1
                   have s1 : wx.heap.size ≤ w1.heap.size := by have := g1.size; simp at this; omega
                   have b1 : Below wx.heap.size wx w1 := (by first | exact (below_alloc _).drew | exact (below_alloc2 _ _).drew | exact (below_alloc3 _ _ _).drew : Below wx.heap.size wx _).grown g1 (by first | omega | (simp; done) | (simp; omega)) (fun k hk => by simp [blockOf] at hk; omega)
                   have d0 := cell_below b1 d0
                   have d1 := cell_below b1 d1)
                | (refine step_pushAll rfl (.tmp 70) (.tmp 75) _ rfl wx.heap.size 42 i0 (.agg #[.int .i64 0, .string ByteArray.empty]) 2 24 Tryz.underlying24 ii iz0 iz1 iz2 rfl (by omega) baV baV_len one_baS  _ k _ (m.take k) _ 1 1 [x] rfl rfl (k + 1) rfl (by simp only [maxLen]; omega) (by omega) (by first | omega | (simp; omega)) ?_ ?_ ?_
                   · first | exact o1 | exact o1.alloc _
                   · first | exact Rd.of_block (heap_new (by simp)) rfl | exact Rd.of_block (heap_grown g1 (by first | exact heap_new (by simp) | exact heap_old (heap_new (by simp)) | exact heap_old (heap_old (heap_new (by simp)))) (by simp [blockOf] <;> omega)) rfl
                   intro B2 dq2 w2 o2 g2
                   have b2 : Below wx.heap.size wx w2 := by first | exact below_push b1 o1 g2 (Nat.le_refl _) | exact below_push (below_trans b1 (below_alloc _)) (o1.alloc _) g2 (Nat.le_refl _))
                | (refine step_pushAll rfl (.tmp 76) (.tmp 79) _ rfl wx.heap.size 42 i0 (.agg #[.int .i64 0, .string ByteArray.empty]) 2 24 Tryz.underlying24 ii iz0 iz1 iz2 rfl (by omega) baV baV_len one_baS  _ (k + 1) _ (m.take k ++ [x]) TA (q - k) (d - k) (m.drop k) rfl rfl (q + 1) (by omega) (by simp only [maxLen]; omega) (by omega) (by have := b2.size; omega) ?_ ?_ ?_
                   · exact o2
                   · exact RD.out.below b2
                   intro B3 dq3 w3 o3 g3
                   have b3 : Below wx.heap.size wx w3 := below_push b2 o2 g3 (Nat.le_refl _)))
              all_goals
                have O8 := Lib.hid o3
                clear o3 o2 o1
                go_wp2
                go_roundw
                case rel => exact ⟨j + 1, B3, _, dq3, _, by go_num, by omega, rfl, by rw [HQ.out], O8.out.base_le (Nat.le_trans hbw.size hbx.size), below_trans (below_trans hbw hbx) b3, by simpa [insP] using NX.out⟩
                case measure => first | (simp [intOf]; done) | (simp [intOf]; omega)
      · obtain rfl : j = n := by omega
        have F := Lib.hid (srtTo_done (l := l) (m := m) (by rw [HL.out]; exact SS.out))
        clear ha
        go_wp2
        go_ret2
        exact ⟨⟨_, _, _, rfl, by rw [E.out, ← F.out]; exact HO.out⟩, hbw⟩

end Go.Proofs.YtcockjjilcapaaaGreat
