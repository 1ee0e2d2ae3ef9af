/-
  YtmahfkimeclcbaaGreatDoorCorB: corrections: one correction made in one line.
-/
import Derived.Test.YtmahfkimeclcbaaGreatDoorCorA
import Derived.Test.YtmahfkimeclcbaaGreatDoorSt
import Derived.Test.YtmahfkimeclcbaaGreatDoorShelf
import Derived.Lib.IndexEntry
import Derived.Lib.IndexMore
namespace Go.Proofs.YtmahfkimeclcbaaGreatDoor
open Go Go.RowKit Go.Sort
set_option linter.unusedVariables false

/-- The places below k at which p occurs in s. -/
def occs (s p : ByteArray) (k : Nat) : List Int := ((List.range k).filter fun i => Lib.occAt s.data.toList p.data.toList i).map fun (i : Nat) => (i : Int)
/-- All places at which p occurs in s. -/
def places (s p : ByteArray) : List Int := occs s p (s.size + 1 - p.size)
/-- p occurs once in s. -/
def oneB (s p : ByteArray) : Bool := decide ((places s p).length = 1)
/-- The first place. -/
def at1 (s p : ByteArray) : Nat := (Lib.index s.data.toList p.data.toList).toNat
/-- The line with the correction made. -/
def fixB (s : ByteArray) (x : CO) : ByteArray := s.extract 0 (at1 s x.old) ++ x.new ++ s.extract (at1 s x.old + x.old.size) s.size
/-- A correction's texts are as described. -/
def coOK (x : CO) : Bool := (plainB x.old && inB x.old.size 1 20) && (plainB x.new && inB x.new.size 0 20) && !(x.old.toList == x.new.toList)

theorem occs_yes {s p : ByteArray} {k : Nat} (h : Lib.occAt s.data.toList p.data.toList k = true) : occs s p (k + 1) = occs s p k ++ [(k : Int)] := by
  unfold occs; rw [List.range_succ, List.filter_append, List.map_append]; simp [h]
theorem occs_no {s p : ByteArray} {k : Nat} (h : Lib.occAt s.data.toList p.data.toList k = false) : occs s p (k + 1) = occs s p k := by
  unfold occs; rw [List.range_succ, List.filter_append, List.map_append]; simp [h]
theorem occs_len (s p : ByteArray) (k : Nat) : (occs s p k).length ≤ k := by
  unfold occs
  rw [List.length_map]
  exact Nat.le_trans (List.length_filter_le _ _) (by simp)
theorem bsize_eq (s : ByteArray) : s.data.toList.length = s.size := rfl
theorem occAt_in {s p : ByteArray} {i : Nat} (h : Lib.occAt s.data.toList p.data.toList i = true) (h1 : 1 ≤ p.size) : i + p.size ≤ s.size := by
  unfold Lib.occAt at h
  have := (List.isPrefixOf_iff_prefix.1 h).length_le
  rw [List.length_drop, bsize_eq, bsize_eq] at this
  omega
theorem places_none {s p : ByteArray} (h : ∀ j, j ≤ s.size → Lib.occAt s.data.toList p.data.toList j = false) : places s p = [] := by
  unfold places occs
  rw [List.filter_eq_nil_iff.2 (fun j hj => by rw [List.mem_range] at hj; rw [h j (by omega)]; simp)]
  rfl
theorem mem_places {s p : ByteArray} {i : Nat} (h1 : 1 ≤ p.size) : (i : Int) ∈ places s p ↔ Lib.occAt s.data.toList p.data.toList i = true := by
  unfold places occs
  rw [List.mem_map]
  constructor
  · rintro ⟨j, hj, e⟩
    obtain rfl : j = i := by omega
    exact (List.mem_filter.1 hj).2
  · intro h
    have := occAt_in h h1
    exact ⟨i, List.mem_filter.2 ⟨List.mem_range.2 (by omega), h⟩, rfl⟩
theorem places_nodup (s p : ByteArray) : (places s p).Nodup := by
  unfold places occs
  exact (List.nodup_range.filter _).map _ (fun a b h e => h (by omega))
theorem one_list {l : List Int} (h : l.Nodup) {a : Int} (ha : a ∈ l) (hu : ∀ b ∈ l, b = a) : l = [a] := by
  cases l with
  | nil => cases ha
  | cons x t =>
    obtain rfl := hu x (by simp)
    cases t with
    | nil => rfl
    | cons y u =>
      obtain rfl := hu y (by simp)
      simp at h
theorem places_nat {s p : ByteArray} {a : Int} (h : a ∈ places s p) : ∃ i : Nat, a = i := by
  unfold places occs at h
  obtain ⟨i, _, e⟩ := List.mem_map.1 h
  exact ⟨i, e.symm⟩
/-- WHAT THE PROGRAM ASKS OF strings: the first place, and none behind it. -/
theorem one_spec (s p : ByteArray) (h1 : 1 ≤ p.size) :
    (Lib.index s.data.toList p.data.toList = -1 ∧ oneB s p = false) ∨
    (∃ i : Nat, Lib.index s.data.toList p.data.toList = i ∧ i + p.size ≤ s.size ∧ oneB s p = !Lib.contains (s.extract (i + 1) s.size).data.toList p.data.toList ∧ (oneB s p = true → places s p = [(i : Int)])) := by
  rcases Lib.index_spec s.data.toList p.data.toList with ⟨h, hn⟩ | ⟨i, h, hi, ho, hno⟩
  · exact .inl ⟨h, by unfold oneB; rw [places_none (fun j hj => hn j hj)]; rfl⟩
  · refine .inr ⟨i, h, occAt_in ho h1, ?_, ?_⟩
    · rw [Lib.extract_to_end, Lib.contains]
      rcases Lib.index_spec (s.data.toList.drop (i + 1)) p.data.toList with ⟨h', hn'⟩ | ⟨j, h', hj, ho', _⟩
      · rw [h']
        have : places s p = [(i : Int)] := one_list (places_nodup s p) ((mem_places h1).2 ho) (fun b hb => by
          obtain ⟨t, rfl⟩ := places_nat hb
          have ht := (mem_places h1).1 hb
          by_cases e : t = i
          · rw [e]
          · exfalso
            by_cases hlt : t < i
            · rw [hno t hlt] at ht; cases ht
            · have h2 := occAt_in ht h1
              have := hn' (t - (i + 1)) (by rw [List.length_drop, bsize_eq]; omega)
              unfold Lib.occAt at this ht
              rw [List.drop_drop, show i + 1 + (t - (i + 1)) = t from by omega, ht] at this
              cases this)
        unfold oneB
        rw [this]
        rfl
      · rw [h']
        have hd : Lib.occAt s.data.toList p.data.toList (i + 1 + j) = true := by
          unfold Lib.occAt at ho' ⊢
          rwa [List.drop_drop] at ho'
        have m1 := (mem_places h1).2 ho
        have m2 := (mem_places h1).2 hd
        have : oneB s p = false := by
          unfold oneB
          rw [decide_eq_false_iff_not]
          intro e
          obtain ⟨a, ha⟩ := List.length_eq_one_iff.1 e
          rw [ha, List.mem_singleton] at m1 m2
          omega
        rw [this]
        simp
    · intro e
      unfold oneB at e
      obtain ⟨a, ha⟩ := List.length_eq_one_iff.1 (of_decide_eq_true e)
      have m1 := (mem_places h1).2 ho
      rw [ha, List.mem_singleton] at m1
      rw [ha, m1]

theorem toList_ne {p : ByteArray} (h : 0 < p.size) : p.toList.isEmpty = false := by
  cases he : p.toList.isEmpty
  · rfl
  · exfalso
    have h2 := (toList_nil_iff_emptyBytes p).1 (List.isEmpty_iff.1 he)
    subst h2
    simp at h
theorem size_zero {p : ByteArray} (h : p.size = 0) : p = ⟨#[]⟩ := by
  cases p with
  | mk d => cases d with | mk l => cases l with
    | nil => rfl
    | cons a t => cases h
theorem Tryz.infoIn : (Tryz.prog.info? 3).map (fun i => (i.zero, i.size, i.bytes)) = some (some (.int .i64 0), 1, 8) := by kernel_rfl
theorem one_in : ∀ x : Int, ∀ u ∈ inV x, u.oneCell' = true := by intro x u h; simp [inV] at h; subst h; rfl

set_option maxRecDepth 100000 in
set_option maxHeartbeats 1000000 in
theorem l22Places_any (s p : ByteArray) (w : World) (hs : s.size ≤ 4194304) (hp : p.size ≤ 4194304) :
    Calls Tryz.prog 61 #[.string s, .string p] w fun e w' => (∃ B q d, e = .returned (.slice B q d) ∧ Own inV 1 w' w.heap.size 3 B q d (places s p)) ∧ Below w.heap.size w w' := by
  obtain ⟨i0, hi, hz0, hz1, hz2⟩ := info_parts Tryz.infoIn
  have ho0 := Own.empty inV 1 w 3
  go_enter Tryz.func61, Tryz.ntmps61
  go_wp2
  go_loopw [5, 6] (fun v i wr => ∃ k : Nat, k ≤ s.size + 1 - p.size ∧ i = .int .i64 k ∧ ∃ B q d, v = .slice B q d ∧ q ≤ k ∧ Own inV 1 wr w.heap.size 3 B q d (occs s p k) ∧ Below w.heap.size w wr) (fun _ i _ => s.size + 1 - (intOf i).toNat)
  case atStart => exact ⟨0, by omega, rfl, _, 0, 0, rfl, Nat.le_refl _, ho0, below_alloc _⟩
  case round =>
    clear ho0
    obtain ⟨k, hk, rfl, B, q, d, rfl, hq, ho, hbw⟩ := hrel
    by_cases hlt : k + p.size ≤ s.size
    · have hpe := (Lib.occ_of_piece s p k hlt).symm
      have hw : wrap64 ((k : Int) + (p.size : Int)) = ((k + p.size : Nat) : Int) := by unfold wrap64; omega
      cases hc : Lib.occAt s.data.toList p.data.toList k
      · have E := Lib.hid (occs_no hc)
        rw [hc] at hpe
        clear hc
        go_wp2
        go_roundw
        case rel => exact ⟨k + 1, by omega, by go_num, B, q, d, rfl, by omega, by rw [E.out]; exact ho, hbw⟩
        case measure => simp [intOf]; omega
      · have E := Lib.hid (occs_yes hc)
        rw [hc] at hpe
        clear hc
        go_wp2_with (at_builtin; refine wpList_push rfl _ _ _ rfl w.heap.size 3 i0 (.int .i64 0) 1 8 Tryz.underlying68 hi hz0 hz1 hz2 rfl (by omega) inV inV_len one_in B q d _ rfl ho (k : Int) _ rfl _ rfl (by first | rfl | simp) (by simp only [maxLen]; omega) (by omega) hbw.size ?_; intro B3 d3 w3 ho3 hg3)
        go_roundw
        case rel => exact ⟨k + 1, by omega, by go_num, B3, q + 1, d3, rfl, by omega, by rw [E.out]; exact ho3, below_push hbw ho hg3 (Nat.le_refl _)⟩
        case measure => simp [intOf]; omega
    · have E : places s p = occs s p k := by
        unfold places
        by_cases e : k = s.size + 1 - p.size
        · rw [e]
        · exfalso; omega
      have HE := Lib.hid E
      clear E
      go_wp2
      go_ret
      exact ⟨⟨_, _, _, rfl, by rw [HE.out]; exact ho⟩, hbw⟩

set_option maxRecDepth 100000 in
set_option maxHeartbeats 1000000 in
theorem isCorrection_any (x : CO) (w : World) (h0 : x.old.size ≤ maxLen) (h1 : x.new.size ≤ maxLen) :
    Calls Tryz.prog 36 #[.agg #[.int .i64 x.line, .string x.old, .string x.new]] w fun e w' => e = .returned (.bool (coOK x)) ∧ Below w.heap.size w w' := by
  go_enter Tryz.func36, Tryz.ntmps36
  go_wp2_with (go_at_call 58; refine (arePrintable_any _ _ _ _ (by first | exact h0 | exact h1)).mono ?_; rintro e w1 ⟨rfl, rfl⟩)
  all_goals go_ret
  all_goals exact ⟨ret_bool (by simp_all [coOK]), below_alloc _⟩

set_option maxRecDepth 100000 in
set_option maxHeartbeats 1000000 in
theorem l22One_any (x : CO) (w : World) (h0 : x.old.size ≤ maxLen) (h1 : x.new.size ≤ maxLen) :
    Calls Tryz.prog 51 #[.agg #[.int .i64 x.line, .string x.old, .string x.new]] w fun e w' => e = .returned (.bool (coOK x)) ∧ Below w.heap.size w w' := by
  have hz : inB x.new.size 0 20 = decide ((x.new.size : Int) ≤ 20) := by simp [inB]
  have hy : inB x.old.size 1 20 = (decide ((x.old.size : Int) ≤ 20) && !x.old.toList.isEmpty) := by
    by_cases h : 0 < x.old.size
    · rw [toList_ne h]; simp [inB]; omega
    · have h2 : x.old.size = 0 := by omega
      have : x.old.toList.isEmpty = true := List.isEmpty_iff.2 ((toList_nil_iff_emptyBytes x.old).2 (size_zero h2))
      rw [this, h2]; rfl
  have HZ := Lib.hid hz
  have HY := Lib.hid hy
  clear hz hy
  go_enter Tryz.func51, Tryz.ntmps51
  go_wp2_with (go_at_call 37; refine (l22Plain_any _ _ _ (by first | exact h0 | exact h1)).mono ?_; rintro e w1 ⟨rfl, rfl⟩)
  all_goals go_ret
  all_goals exact ⟨ret_bool (by unfold coOK; rw [HZ.out, HY.out]; clear HZ HY; generalize plainB x.old = a1 at *; generalize plainB x.new = a2 at *; cases a1 <;> cases a2 <;> simp_all <;> (intros; omega)), below_alloc _⟩

end Go.Proofs.YtmahfkimeclcbaaGreatDoor
