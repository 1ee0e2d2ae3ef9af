/-
  YtmmogpbbehgkiaaTraF: traces: l23Asked, areOrderly, both IsOrderly, FirstDisorder, AddStep. (Printed by wip/gen/traf.py.)
-/
import Derived.Test.YtmmogpbbehgkiaaTraE
import Derived.Deep.RegionLaw
import Derived.Deep.DeepCutAuto
namespace Go.Proofs.Ytmmogpbbehgkiaa
open Go Go.RowKit Go.Sort
set_option linter.unusedVariables false

theorem one_ts (x : TS) : ∀ u ∈ tsV x, u.oneCell' = true := by intro u hu; simp [tsV] at hu; rcases hu with rfl | rfl <;> rfl
def asked (l : List TS) : Bool := goodL l && ordL l
theorem goodL_all {l : List TS} (h : goodL l = true) : l.all tsOK = true := by simp [goodL] at h; simpa using h.1
theorem goodL_len {l : List TS} (h : goodL l = true) : l.length ≤ 24 := by simp [goodL] at h; exact h.2
theorem Rd.take {α : Type} {enc : α → List Value} {sz : Nat} {w : World} {A : Option Addr} {n c : Nat} {l : List α} (h : Rd enc sz w A n c l) {k : Nat} (hk : k ≤ n) : Rd enc sz w A k c (l.take k) := by
  refine ⟨by rw [List.length_take, h.len]; omega, by have := h.cap; omega, h.max, h.nil0, fun h0 => ?_⟩
  obtain ⟨b, off, e, hc⟩ := h.at_ (by omega)
  refine ⟨b, off, e, fun i x hx j u hu => hc i x ?_ j u hu⟩
  have hi : i < (l.take k).length := (List.getElem?_eq_some_iff.1 hx).1
  rw [List.getElem?_take] at hx
  split at hx
  · exact hx
  · cases hx

set_option maxHeartbeats 400000 in
theorem l23Asked_any (A : Option Addr) (n c : Nat) (l : List TS) (w : World) (ha : Rd tsV 2 w A n c l) :
    Calls Try.prog 26 #[.slice A n c] w fun e w' => e = .returned (.bool (asked l)) ∧ w = w' := by
  cases hg : goodL l
  · have E := Lib.hid (show asked l = false by simp [asked, hg])
    go_enter Try.func26, Try.ntmps26
    go_wp2_with fail
    refine (l23Good_any _ _ _ _ _ ha).mono ?_
    rintro e w1 ⟨rfl, rfl⟩
    go_wp2
    go_ret
    exact ⟨ret_bool E.out.symm, rfl⟩
  · have E := Lib.hid (show asked l = ordL l by simp [asked, hg])
    have hall := Lib.hid (goodL_all hg)
    have hn : n ≤ 24 := by rw [← ha.len]; exact goodL_len hg
    go_enter Try.func26, Try.ntmps26
    go_wp2_with fail
    refine (l23Good_any _ _ _ _ _ ha).mono ?_
    rintro e w1 ⟨rfl, rfl⟩
    go_wp2_with fail
    refine (l23Orderly_any _ _ _ _ _ ha hall.out (by omega)).mono ?_
    rintro e w2 ⟨rfl, rfl⟩
    go_wp2
    go_ret
    exact ⟨ret_bool E.out.symm, rfl⟩

set_option maxHeartbeats 400000 in
theorem areOrderly_any (A : Option Addr) (n c : Nat) (l : List TS) (w : World) (ha : Rd tsV 2 w A n c l) :
    Calls Try.prog 30 #[.slice A n c] w fun e w' => e = .returned (.bool (asked l)) ∧ Below w.heap.size w w' := by
  cases hg : goodL l
  · have E := Lib.hid (show asked l = false by simp [asked, hg])
    go_enter Try.func30, Try.ntmps30
    go_wp2_with fail
    refine (implIsTraceList_any _ _ _ _ _ ha).mono ?_
    rintro e w1 ⟨rfl, b1⟩
    go_wp2
    go_ret
    exact ⟨ret_bool E.out.symm, b1⟩
  · have E := Lib.hid (show asked l = ordL l by simp [asked, hg])
    have hall := Lib.hid (goodL_all hg)
    have hn : n ≤ 24 := by rw [← ha.len]; exact goodL_len hg
    go_enter Try.func30, Try.ntmps30
    go_wp2_with fail
    refine (implIsTraceList_any _ _ _ _ _ ha).mono ?_
    rintro e w1 ⟨rfl, b1⟩
    go_wp2_with fail
    refine (isOrderly_any _ _ _ _ _ (ha.below b1) (by omega)).mono ?_
    rintro e w2 ⟨rfl, b2⟩
    go_wp2
    go_ret
    exact ⟨ret_bool E.out.symm, below_trans b1 b2⟩

/-- The first place whose steps up to it are not orderly: the index, if there is one. -/
def badAt (l : List TS) : Option Nat := (List.range l.length).find? fun i => !ordL (l.take (i + 1))
def fdN (l : List TS) : Int := if goodL l then (match badAt l with | some i => (i : Int) + 1 | none => 0) else 0
def fdB (l : List TS) : Bool := goodL l && (badAt l).isSome
theorem find_first {p : Nat → Bool} {n k : Nat} (hk : k < n) (h : ∀ j, j < k → p j = false) (hp : p k = true) : (List.range n).find? p = some k := by
  exact List.find?_range_eq_some.2 ⟨hp, by simpa using hk, fun j hj => by simp [h j hj]⟩
theorem find_none {p : Nat → Bool} {n : Nat} (h : ∀ j, j < n → p j = false) : (List.range n).find? p = none := by
  rw [List.find?_eq_none]; intro x hx; simpa using h x (by simpa using hx)

def addL (l : List TS) (s : TS) : List TS := if asked l && asked (l ++ [s]) then l ++ [s] else []
def addB (l : List TS) (s : TS) : Bool := asked l && asked (l ++ [s])

theorem ret_sl_bool {A : Option Addr} {n c : Nat} {b d : Bool} (h : b = d) : Ending.returned (.tuple #[.slice A n c, .bool b]) = .returned (.tuple #[.slice A n c, .bool d]) := by rw [h]

set_option maxRecDepth 100000 in
set_option maxHeartbeats 4000000 in
theorem specAddStep_any (A : Option Addr) (n c : Nat) (l : List TS) (s : TS) (w : World) (ha : Rd tsV 2 w A n c l) (hn : n ≤ 1048576) :
    Calls Try.prog 59 #[.slice A n c, .agg #[.int .i64 s.m, .int .i64 s.k]] w fun e w' => (∃ B q d, e = .returned (.tuple #[.slice B q d, .bool (addB l s)]) ∧ Own tsV 2 w' w.heap.size 50 B q d (addL l s)) ∧ Below w.heap.size w w' := by
  obtain ⟨i0, hi, hz0, hz1, hz2⟩ := info_parts Try.infots
  go_enter Try.func59, Try.ntmps59
  go_upto_region 1 with fail
  go_cut [6] (fun s6 wx => ∃ B d, s6 = .slice B (n + 1) d ∧ Own tsV 2 wx w.heap.size 50 B (n + 1) d (l ++ [s]) ∧ Below w.heap.size w wx)
  case first =>
    go_region_law (first
      | (refine step_pushAll rfl (.tmp 7) (.tmp 8) _ rfl w.heap.size 50 i0 _ 2 16 Try.underlying27 hi hz0 hz1 hz2 rfl (by omega) tsV tsV_len one_ts _ 0 0 [] _ n c l rfl rfl n (by omega) (by simp only [maxLen]; omega) (by omega) (by first | omega | (simp; done) | (simp; omega)) ?_ ?_ ?_
         · exact Own.of_block (by first | exact heap_new (by simp) | exact heap_old (heap_new (by simp)) | exact heap_old (heap_old (heap_new (by simp)))) (by first | omega | (simp; done) | (simp; omega))
         · first | exact ((ha.alloc _).alloc _).drew | exact (((ha.alloc _).alloc _).alloc _).drew
         intro B1 d1 w1 o1 g1
         have hbx : w1.heap[w.heap.size]? = some (.cells #[.int .i64 s.m, .int .i64 s.k] 50 (0, 0)) := heap_grown g1 (by first | exact heap_old (heap_new rfl) | exact heap_old (heap_old (heap_new rfl))) (by simp [blockOf] <;> omega)
         have q0 := fun i => cell_of_row w1 w.heap.size i _ _ _ hbx
         have s1 : w.heap.size ≤ w1.heap.size := by have := g1.size; simp at this; omega
         have b1 : Below w.heap.size w w1 := (by first | exact (below_alloc2 _ _).drew | exact (below_alloc3 _ _ _).drew : Below w.heap.size w _).grown g1 (by first | omega | (simp; done) | (simp; omega)) (fun k hk => by simp [blockOf] at hk; omega))
      | (refine step_pushAll rfl (.tmp 9) (.tmp 11) _ rfl w.heap.size 50 i0 _ 2 16 Try.underlying27 hi hz0 hz1 hz2 rfl (by omega) tsV tsV_len one_ts _ n _ l _ 1 1 [s] rfl rfl (n + 1) rfl (by simp only [maxLen]; omega) (by omega) (by first | exact s1 | (simp; omega)) ?_ ?_ ?_
         · first | exact o1 | exact o1.alloc _
         · first | exact Rd.of_block (heap_new (by simp)) rfl | exact Rd.of_block (heap_grown g1 (by first | exact heap_new (by simp) | exact heap_old (heap_new (by simp)) | exact heap_old (heap_old (heap_new (by simp)))) (by simp [blockOf] <;> omega)) rfl
         intro B2 d2 w2 o2 g2
         have b2 : Below w.heap.size w w2 := by first | exact below_push b1 o1 g2 (Nat.le_refl _) | exact below_push (below_trans b1 (below_alloc _)) (o1.alloc _) g2 (Nat.le_refl _)))
    all_goals (go_wp2_with fail; go_meet; exact ⟨B2, d2, rfl, o2, b2⟩)
  case rest =>
  obtain ⟨B, d, rfl, hoc, hbc⟩ := hcut
  cases h1 : asked l
  · have E1 := Lib.hid (show addL l s = [] by simp [addL, h1])
    have E2 := Lib.hid (show addB l s = false by simp [addB, h1])
    go_wp2_with fail
    refine (l23Asked_any _ _ _ _ _ (ha.below hbc)).mono ?_
    rintro e w3 ⟨rfl, rfl⟩
    go_wp2
    go_ret2
    exact ⟨⟨_, _, _, ret_sl_bool E2.out.symm, by rw [E1.out]; exact (Own.empty _ _ _ _).base_le hbc.size⟩, below_trans hbc (below_alloc _)⟩
  · cases h2 : asked (l ++ [s])
    · have E1 := Lib.hid (show addL l s = [] by simp [addL, h1, h2])
      have E2 := Lib.hid (show addB l s = false by simp [addB, h1, h2])
      go_wp2_with fail
      refine (l23Asked_any _ _ _ _ _ (ha.below hbc)).mono ?_
      rintro e w3 ⟨rfl, rfl⟩
      go_wp2_with fail
      refine (l23Asked_any _ _ _ _ _ (hoc.rd tsV_len)).mono ?_
      rintro e w4 ⟨rfl, rfl⟩
      go_wp2
      go_ret2
      exact ⟨⟨_, _, _, ret_sl_bool E2.out.symm, by rw [E1.out]; exact (Own.empty _ _ _ _).base_le hbc.size⟩, below_trans hbc (below_alloc _)⟩
    · have E1 := Lib.hid (show addL l s = l ++ [s] by simp [addL, h1, h2])
      have E2 := Lib.hid (show addB l s = true by simp [addB, h1, h2])
      go_wp2_with fail
      refine (l23Asked_any _ _ _ _ _ (ha.below hbc)).mono ?_
      rintro e w3 ⟨rfl, rfl⟩
      go_wp2_with fail
      refine (l23Asked_any _ _ _ _ _ (hoc.rd tsV_len)).mono ?_
      rintro e w4 ⟨rfl, rfl⟩
      go_wp2
      go_ret2
      exact ⟨⟨_, _, _, ret_sl_bool E2.out.symm, by rw [E1.out]; exact hoc⟩, hbc⟩

end Go.Proofs.Ytmmogpbbehgkiaa
