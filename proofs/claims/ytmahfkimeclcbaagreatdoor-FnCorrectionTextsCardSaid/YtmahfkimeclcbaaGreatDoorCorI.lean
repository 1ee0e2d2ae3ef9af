/-
  YtmahfkimeclcbaaGreatDoorCorI: corrections: both ShortCorrection.
-/
import Derived.Test.YtmahfkimeclcbaaGreatDoorCorC
import Derived.Deep.DeepCutAuto
import Derived.StillTailTactics
import Derived.WalkLawsBesides
import Derived.RegionTactic
import Derived.BigRegion
namespace Go.Proofs.YtmahfkimeclcbaaGreatDoor
open Go Go.RowKit Go.Sort
set_option linter.unusedVariables false

/-- The correction that takes n bytes at i. -/
def shX (a b : ByteArray) (n i : Nat) : CO := ⟨0, a.extract i (i + n), b.extract i (i + (b.size + n - a.size))⟩
/-- It turns a into b. -/
def shOK (a b : ByteArray) (n i : Nat) : Bool := decide (a.size ≤ b.size + n) && (coOK (shX a b n i) && impG a (shX a b n i)) && ((impS a (shX a b n i)).toList == b.toList)
def shRow (a b : ByteArray) (n : Nat) : Option CO := ((List.range (a.size + 1 - n)).find? (shOK a b n)).map (shX a b n)
def shAll (a b : ByteArray) : Option CO := ((List.range 20).find? (fun n => (shRow a b (n + 1)).isSome)).bind (fun n => shRow a b (n + 1))
def shO (a b : ByteArray) : Option CO := if lineB a && lineB b && !(a.toList == b.toList) then shAll a b else none
/-- ShortCorrection's results. -/
def scC (a b : ByteArray) : CO := (shO a b).getD ⟨0, ⟨#[]⟩, ⟨#[]⟩⟩
def scG (a b : ByteArray) : Bool := (shO a b).isSome
theorem shRow_some {a b : ByteArray} {n i : Nat} (hi : i + n ≤ a.size) (h : shOK a b n i = true) (hb : ∀ j, j < i → shOK a b n j = false) : shRow a b n = some (shX a b n i) := by
  have : (List.range (a.size + 1 - n)).find? (shOK a b n) = some i := by
    rw [List.find?_range_eq_some]
    exact ⟨h, List.mem_range.2 (by omega), fun j hj => by rw [hb j hj]; rfl⟩
  unfold shRow
  rw [this]
  rfl
theorem shRow_none {a b : ByteArray} {n i : Nat} (hi : a.size < i + n) (hb : ∀ j, j < i → shOK a b n j = false) : shRow a b n = none := by
  have : (List.range (a.size + 1 - n)).find? (shOK a b n) = none := by
    rw [List.find?_range_eq_none]
    intro j hj
    rw [hb j (by omega)]
    rfl
  unfold shRow
  rw [this]
  rfl
theorem shAll_some {a b : ByteArray} {t : Nat} {r : CO} (ht : t < 20) (h : shRow a b (t + 1) = some r) (hb : ∀ j, j < t → shRow a b (j + 1) = none) : shAll a b = some r := by
  have : (List.range 20).find? (fun n => (shRow a b (n + 1)).isSome) = some t := by
    rw [List.find?_range_eq_some]
    exact ⟨by rw [h]; rfl, List.mem_range.2 ht, fun j hj => by rw [hb j hj]; rfl⟩
  unfold shAll
  rw [this]
  exact h
theorem shAll_none {a b : ByteArray} {t : Nat} (ht : 20 ≤ t ∨ a.size ≤ t) (hb : ∀ j, j < t → shRow a b (j + 1) = none) : shAll a b = none := by
  have : (List.range 20).find? (fun n => (shRow a b (n + 1)).isSome) = none := by
    rw [List.find?_range_eq_none]
    intro j hj
    by_cases h : j < t
    · rw [hb j h]; rfl
    · rw [shRow_none (i := 0) (by omega) (fun j hj => absurd hj (by omega))]; rfl
  unfold shAll
  rw [this]
  rfl
theorem shAll_some' {a b : ByteArray} {n : Nat} {r : CO} (h1 : 1 ≤ n) (h2 : n ≤ 20) (h : shRow a b n = some r) (hb : ∀ j, j + 1 < n → shRow a b (j + 1) = none) : shAll a b = some r := by
  obtain ⟨t, rfl⟩ : ∃ t, n = t + 1 := ⟨n - 1, by omega⟩
  exact shAll_some (by omega) h (fun j hj => hb j (by omega))
theorem shAll_none' {a b : ByteArray} {n : Nat} (h1 : 1 ≤ n) (h2 : 20 < n ∨ a.size < n) (hb : ∀ j, j + 1 < n → shRow a b (j + 1) = none) : shAll a b = none := shAll_none (t := n - 1) (by omega) (fun j hj => hb j (by omega))
theorem upto_next {p : Nat → Bool} {i : Nat} (h : ∀ j, j < i → p j = false) (h1 : p i = false) : ∀ j, j < i + 1 → p j = false := fun j hj => by
  by_cases e : j = i
  · rw [e]; exact h1
  · exact h j (by omega)
theorem rows_next {a b : ByteArray} {n : Nat} (h : ∀ j, j + 1 < n → shRow a b (j + 1) = none) (h1 : shRow a b n = none) : ∀ j, j + 1 < n + 1 → shRow a b (j + 1) = none := fun j hj => by
  by_cases e : j + 1 = n
  · rw [e]; exact h1
  · exact h j (by omega)
theorem scC_no {a b : ByteArray} (h : shO a b = none) : scC a b = ⟨0, ⟨#[]⟩, ⟨#[]⟩⟩ := by simp [scC, h]
theorem scG_no {a b : ByteArray} (h : shO a b = none) : scG a b = false := by simp [scG, h]
theorem scC_yes {a b : ByteArray} {x : CO} (h : shO a b = some x) : scC a b = x := by simp [scC, h]
theorem scG_yes {a b : ByteArray} {x : CO} (h : shO a b = some x) : scG a b = true := by simp [scG, h]
theorem shO_go {a b : ByteArray} (h1 : lineB a = true) (h2 : lineB b = true) (h3 : (a.toList == b.toList) = false) : shO a b = shAll a b := by unfold shO; rw [h1, h2, h3]; rfl
theorem bytes_inj {s t : ByteArray} (h : (s.toList == t.toList) = true) : s = t := by
  have := eq_of_beq h
  rw [Lib.toList_data, Lib.toList_data] at this
  cases s; cases t; congr; exact Array.toList_inj.1 this
theorem at_only {a p : ByteArray} {i : Nat} (h1 : 1 ≤ p.size) (ho : Lib.occAt a.data.toList p.data.toList i = true) (h : oneB a p = true) : at1 a p = i := by
  rcases one_spec a p h1 with ⟨_, h2⟩ | ⟨j, hj, _, _, hpl⟩
  · rw [h] at h2; cases h2
  · have := (mem_places h1).2 ho
    rw [hpl h, List.mem_singleton] at this
    unfold at1
    rw [hj]
    omega
/-- If it turns a into b, the bytes before and behind stand in b. -/
theorem sh_ends {a b : ByteArray} {n i : Nat} (hi : i + n ≤ a.size) (hn : 1 ≤ n) (h : shOK a b n i = true) : b.extract 0 i = a.extract 0 i ∧ Lib.hasSuffix b.data.toList (a.extract (i + n) a.size).data.toList = true := by
  unfold shOK at h
  simp only [Bool.and_eq_true] at h
  obtain ⟨⟨_, _, hg⟩, he⟩ := h
  unfold impG at hg
  rw [Bool.and_eq_true] at hg
  have hsz : (shX a b n i).old.size = n := by show (a.extract i (i + n)).size = n; rw [ByteArray.size_extract]; omega
  have ho : Lib.occAt a.data.toList (shX a b n i).old.data.toList i = true := by
    rw [Lib.occ_of_piece _ _ _ (by rw [hsz]; exact hi), hsz]
    show ((a.extract i (i + n)).toList == (a.extract i (i + n)).toList) = true
    simp
  generalize shX a b n i = X at *
  have hat := at_only (by rw [hsz]; exact hn) ho hg.1
  have hb := bytes_inj he
  rw [impS_yes hg.1] at hb
  unfold fixB at hb
  rw [hat, hsz] at hb
  have hd : b.data.toList = a.data.toList.take i ++ (X.new.data.toList ++ a.data.toList.drop (i + n)) := by
    rw [← hb, ByteArray.data_append, ByteArray.data_append, Array.toList_append, Array.toList_append, Lib.extract_data, Lib.extract_to_end, List.append_assoc]
    simp
  have hl : (a.data.toList.take i).length = i := by rw [List.length_take, bsize_eq]; omega
  constructor
  · apply bytes_inj
    rw [Lib.toList_data, Lib.toList_data, Lib.extract_data, Lib.extract_data, hd]
    simp only [List.drop_zero, Nat.sub_zero]
    rw [List.take_append_of_le_length (by omega), List.take_take]
    simp
  · unfold Lib.hasSuffix
    rw [Lib.extract_to_end, hd, List.isSuffixOf_iff_suffix, ← List.append_assoc]
    exact List.suffix_append _ _

theorem line_sz {s : ByteArray} (h : lineB s = true) : s.size ≤ 40 := by
  unfold lineB at h
  simp only [Bool.and_eq_true, decide_eq_true_eq] at h
  omega

set_option maxRecDepth 100000 in
set_option maxHeartbeats 2000000 in
theorem implShort_any (a b : ByteArray) (mx : Int) (w : World) (ha : a.size ≤ 1048576) (hb : b.size ≤ 1048576) (hM : w.cell? ⟨0, 0, none⟩ = some (.int .i64 mx)) :
    Calls Tryz.prog 12 #[.string a, .string b] w fun e w' => e = .returned (.tuple #[.agg #[.int .i64 (scC a b).line, .string (scC a b).old, .string (scC a b).new], .bool (scG a b)]) ∧ Below w.heap.size w w' := by
  have hma : a.size ≤ maxLen := by unfold maxLen; omega
  have hmb : b.size ≤ maxLen := by unfold maxLen; omega
  have b0 := below_alloc (w := w) (.cells #[.int .i64 0, .string ⟨#[]⟩, .string ⟨#[]⟩] 25)
  have or : Own coV 3 (w.alloc (.cells #[.int .i64 0, .string ⟨#[]⟩, .string ⟨#[]⟩] 25)) w.heap.size 25 (some ⟨w.heap.size, 0, none⟩) 1 1 [⟨0, ⟨#[]⟩, ⟨#[]⟩⟩] := ⟨rfl, rfl, .inr ⟨_, _, _, rfl, Nat.le_refl _, heap_new rfl, by omega, by simp [maxLen], rfl, rfl⟩⟩
  go_enter Tryz.func12, Tryz.ntmps12
  go_wp2_with fail
  refine (isLine_any _ _ hma).mono ?_
  rintro e w1 ⟨rfl, rfl⟩
  cases h1 : lineB a
  · have E := Lib.hid (show shO a b = none by unfold shO; rw [h1]; rfl)
    go_wp2
    exact bodyPost_ret (v := .tuple #[.agg #[.int .i64 0, .string ⟨#[]⟩, .string ⟨#[]⟩], .bool false]) (by simp [results, Tryz.results12, go_sem]) rfl ⟨by rw [scC_no E.out, scG_no E.out], b0⟩
  go_wp2_with fail
  refine (isLine_any _ _ hmb).mono ?_
  rintro e w1 ⟨rfl, rfl⟩
  cases h2 : lineB b
  · have E := Lib.hid (show shO a b = none by unfold shO; rw [h1, h2]; rfl)
    go_wp2
    exact bodyPost_ret (v := .tuple #[.agg #[.int .i64 0, .string ⟨#[]⟩, .string ⟨#[]⟩], .bool false]) (by simp [results, Tryz.results12, go_sem]) rfl ⟨by rw [scC_no E.out, scG_no E.out], b0⟩
  cases h3 : (a.toList == b.toList)
  rotate_left
  · have E := Lib.hid (show shO a b = none by unfold shO; rw [h1, h2, h3]; rfl)
    go_wp2
    exact bodyPost_ret (v := .tuple #[.agg #[.int .i64 0, .string ⟨#[]⟩, .string ⟨#[]⟩], .bool false]) (by simp [results, Tryz.results12, go_sem]) rfl ⟨by rw [scC_no E.out, scG_no E.out], b0⟩
  have EO := Lib.hid (shO_go h1 h2 h3)
  have hsa := line_sz h1
  have hsb := line_sz h2
  replace hM := cell_below b0 hM
  clear h1 h2
  go_wp2
  generalize hw0 : w.alloc (.cells #[.int .i64 0, .string ⟨#[]⟩, .string ⟨#[]⟩] 25) = w0 at *
  clear hw0
  go_loopw [6] (fun v wr => ∃ n : Nat, 1 ≤ n ∧ n ≤ 21 ∧ v = .int .i64 n ∧ (∀ j, j + 1 < n → shRow a b (j + 1) = none) ∧ Below w0.heap.size w0 wr) (fun v _ => 21 - (intOf v).toNat)
  case atStart => exact ⟨1, by omega, by omega, rfl, fun j hj => absurd hj (by omega), Below.refl _ _⟩
  case round =>
    obtain ⟨n, hn1, hn2, rfl, hrows, hbw⟩ := hrel
    have HR := Lib.hid hrows
    clear hrows
    by_cases hlt : n ≤ 20 ∧ n ≤ a.size
    rotate_left
    · have E := Lib.hid (show shO a b = none by rw [EO.out]; exact shAll_none' hn1 (by omega) HR.out)
      have hmin : ¬((n : Int) ≤ min 20 (a.size : Int)) := by omega
      have or3 := or.below hbw
      have z0 := or3.cell coV_len (i := 0) (j := 0) rfl rfl
      have z1 := or3.cell coV_len (i := 0) (j := 1) rfl rfl
      have z2 := or3.cell coV_len (i := 0) (j := 2) rfl rfl
      have f0 := or3.frozen 0
      have f1 := or3.frozen 1
      have f2 := or3.frozen 2
      simp only [Nat.zero_mul, Nat.zero_add] at z0 z1 z2
      go_wp2
      exact bodyPost_ret (v := .tuple #[.agg #[.int .i64 0, .string ⟨#[]⟩, .string ⟨#[]⟩], .bool false]) (by simp [results, Tryz.results12, go_sem, z0, z1, z2]) rfl ⟨by rw [scC_no E.out, scG_no E.out], below_setCell (below_setCell (below_setCell (below_trans b0 hbw) _ _ _ (Nat.le_refl _)) _ _ _ (Nat.le_refl _)) _ _ _ (Nat.le_refl _)⟩
    · obtain ⟨hl1, hl2⟩ := hlt
      have hmin : (n : Int) ≤ min 20 (a.size : Int) := by omega
      go_wp2
      obtain ⟨wo, hwo⟩ : ∃ wo : World, wo = wr := ⟨_, rfl⟩
      subst hwo
      go_loopw [7] (fun v wr => ∃ i : Nat, i ≤ a.size + 1 - n ∧ v = .int .i64 i ∧ (∀ j, j < i → shOK a b n j = false) ∧ Below w0.heap.size w0 wr) (fun v _ => a.size + 1 - (intOf v).toNat)
      case atStart => exact ⟨0, by omega, rfl, fun j hj => absurd hj (by omega), hbw⟩
      case round =>
        obtain ⟨i, hi, rfl, hup, hbi⟩ := hrel
        have HU := Lib.hid hup
        clear hup
        by_cases hin : i + n ≤ a.size
        · by_cases c1 : a.size ≤ b.size + n
          · have hsf := fun w' => Tryz.strings_HasSuffix b (a.extract (i + n) a.size) w' (by omega)
            go_wp2
            have hs8 : IntKind.i64.wrap ((i : Int) + ((a.size - (i + n) : Nat) : Int)) = ((a.size - n : Nat) : Int) := by rw [IntWalk.i64_in _ (by omega)]; omega
            have hd8 : ¬(b.size < a.size - n) := by omega
            have hib : (i : Int) ≤ (b.size : Int) := by omega
            have hia : (i : Int) ≤ (a.size : Int) := by omega
            have hi0 : (0 : Int) ≤ (i : Int) := by omega
            cases c2 : ((b.extract 0 i).toList == (a.extract 0 i).toList)
            · go_wp2_with fail
              go_quiet (fail)
              go_wp2
              have E := Lib.hid (show shOK a b n i = false by
                cases h : shOK a b n i
                · rfl
                · rw [(sh_ends hin hn1 h).1] at c2; simp at c2)
              go_roundw
              case rel => exact ⟨i + 1, by omega, by go_num, upto_next HU.out E.out, below_drewN hbi _⟩
              case measure => simp [intOf]; omega
            · cases c3 : Lib.hasSuffix b.data.toList (a.extract (i + n) a.size).data.toList
              · simp only [c3] at hsf
                go_wp2_with fail
                go_quiet ((go_at_call 34; exact Calls.quiet_of_same (hsf _)))
                have E := Lib.hid (show shOK a b n i = false by
                  cases h : shOK a b n i
                  · rfl
                  · rw [(sh_ends hin hn1 h).2] at c3; cases c3)
                go_wp2
                go_roundw
                case rel => exact ⟨i + 1, by omega, by go_num, upto_next HU.out E.out, below_drewN hbi _⟩
                case measure => simp [intOf]; omega
              · simp only [c3] at hsf
                go_wp2_with fail
                go_quiet ((go_at_call 34; exact Calls.quiet_of_same (hsf _)))
                have bq := below_drewN (Below.refl wr.heap.size wr) nq
                replace hbi := below_trans hbi bq
                clear bq hsf hs8 hd8
                generalize hwq : wr.drewN nq = w2 at *
                clear hwq
                have hw1 : IntKind.i64.wrap ((i : Int) + (n : Int)) = ((i + n : Nat) : Int) := by rw [IntWalk.i64_in _ (by omega)]; simp
                have hw2 : IntKind.i64.wrap ((b.size : Int) - ((a.size - (i + n) : Nat) : Int)) = ((b.size - (a.size - (i + n)) : Nat) : Int) := by rw [IntWalk.i64_in _ (by omega)]; omega
                have hb1 : i ≤ b.size - (a.size - (i + n)) := by omega
                have hb2 : b.size - (a.size - (i + n)) ≤ b.size := by omega
                have hb3 : i + n ≤ a.size := hin
                have hb4 : i ≤ i + n := by omega
                go_wp2_with fail
                have HC1 := Lib.hid c1
                go_region
                go_wp2_with fail
                obtain ⟨so, hso⟩ : ∃ so, so = a.extract i (i + n) := ⟨_, rfl⟩
                obtain ⟨sn, hsn⟩ : ∃ sn, sn = b.extract i (b.size - (a.size - (i + n))) := ⟨_, rfl⟩
                have hz1 : so.size = n := by rw [hso, ByteArray.size_extract]; omega
                have hz2 : sn.size ≤ 40 := by rw [hsn, ByteArray.size_extract]; omega
                have HX : Hid (shX a b n i = ⟨0, so, sn⟩) := by show _ = _; unfold shX; rw [hso, hsn, show i + (b.size + n - a.size) = b.size - (a.size - (i + n)) by omega]
                rw [← hso, ← hsn]
                have hmo : so.size ≤ maxLen := by unfold maxLen; omega
                have hmn : sn.size ≤ maxLen := by unfold maxLen; omega
                have b3 : Below w2.heap.size w2 (w2.alloc (.cells #[.int .i64 0, .string so, .string sn] 25)).drew := (below_alloc _).drew
                have q0 := fun j => cell_of_row (w2.alloc (.cells #[.int .i64 0, .string so, .string sn] 25)).drew w2.heap.size j _ _ _ (heap_new rfl)
                have c0 : (w2.alloc (.cells #[.int .i64 0, .string so, .string sn] 25)).drew.cell? ⟨w2.heap.size, 0, none⟩ = some (.int .i64 0) := q0 0
                have c1' : (w2.alloc (.cells #[.int .i64 0, .string so, .string sn] 25)).drew.cell? ⟨w2.heap.size, 1, none⟩ = some (.string so) := q0 1
                have c2' : (w2.alloc (.cells #[.int .i64 0, .string so, .string sn] 25)).drew.cell? ⟨w2.heap.size, 2, none⟩ = some (.string sn) := q0 2
                clear q0 hso hsn c1 c2 c3
                generalize hwq : (w2.alloc (.cells #[.int .i64 0, .string so, .string sn] 25)).drew = w3 at *
                clear hwq
                have t3 := below_trans hbi b3
                refine (correctLine_any a ⟨0, so, sn⟩ mx _ (by omega) (by show so.size ≤ _; omega) (by show sn.size ≤ _; omega) (by show _ ≤ so.size; omega) (cell_below t3 hM)).mono ?_
                rintro e w4 ⟨rfl, b4⟩
                replace c0 := cell_below b4 c0
                replace c1' := cell_below b4 c1'
                replace c2' := cell_below b4 c2'
                replace t3 := below_trans t3 b4
                clear b3 b4 hz1 hz2
                go_wp2_with fail
                refine (isCorrection_any ⟨0, so, sn⟩ _ hmo hmn).mono ?_
                rintro e w5 ⟨rfl, b5⟩
                replace c0 := cell_below b5 c0
                replace c1' := cell_below b5 c1'
                replace c2' := cell_below b5 c2'
                replace t3 := below_trans t3 b5
                clear b5
                cases g1 : coOK ⟨0, so, sn⟩
                · have E := Lib.hid (show shOK a b n i = false by unfold shOK; rw [HX.out, g1]; simp)
                  go_wp2
                  go_roundw
                  case rel => exact ⟨i + 1, by omega, by go_num, upto_next HU.out E.out, t3⟩
                  case measure => simp [intOf]; omega
                cases g2 : impG a ⟨0, so, sn⟩
                · have E := Lib.hid (show shOK a b n i = false by unfold shOK; rw [HX.out, g2]; simp)
                  go_wp2
                  go_roundw
                  case rel => exact ⟨i + 1, by omega, by go_num, upto_next HU.out E.out, t3⟩
                  case measure => simp [intOf]; omega
                cases g3 : ((impS a ⟨0, so, sn⟩).toList == b.toList)
                · have E := Lib.hid (show shOK a b n i = false by unfold shOK; rw [HX.out, g3]; simp)
                  go_wp2
                  go_roundw
                  case rel => exact ⟨i + 1, by omega, by go_num, upto_next HU.out E.out, t3⟩
                  case measure => simp [intOf]; omega
                have E := Lib.hid (show shOK a b n i = true by unfold shOK; rw [HX.out, g1, g2, g3, decide_eq_true HC1.out]; rfl)
                have E2 := Lib.hid (show shO a b = some ⟨0, so, sn⟩ by rw [EO.out, ← HX.out]; exact shAll_some' hn1 hl1 (shRow_some hin E.out HU.out) HR.out)
                have or3 := or.below t3
                have z0 := or3.cell coV_len (i := 0) (j := 0) rfl rfl
                have z1 := or3.cell coV_len (i := 0) (j := 1) rfl rfl
                have z2 := or3.cell coV_len (i := 0) (j := 2) rfl rfl
                have f0 := or3.frozen 0
                have f1 := or3.frozen 1
                have f2 := or3.frozen 2
                simp only [Nat.zero_mul, Nat.zero_add] at z0 z1 z2
                go_wp2
                exact bodyPost_ret (v := .tuple #[.agg #[.int .i64 0, .string so, .string sn], .bool true]) (by simp [results, Tryz.results12, go_sem, z0, z1, z2]) rfl ⟨by rw [scC_yes E2.out, scG_yes E2.out], below_setCell (below_setCell (below_setCell (below_trans b0 t3) _ _ _ (Nat.le_refl _)) _ _ _ (Nat.le_refl _)) _ _ _ (Nat.le_refl _)⟩
          · have hs8 : IntKind.i64.wrap ((i : Int) + ((a.size - (i + n) : Nat) : Int)) = ((a.size - n : Nat) : Int) := by rw [IntWalk.i64_in _ (by omega)]; omega
            have hd8 : b.size < a.size - n := by omega
            have E := Lib.hid (show shOK a b n i = false by unfold shOK; rw [decide_eq_false c1]; rfl)
            go_wp2_with fail
            go_quiet (fail)
            go_wp2
            go_roundw
            case rel => exact ⟨i + 1, by omega, by go_num, upto_next HU.out E.out, below_drewN hbi _⟩
            case measure => simp [intOf]; omega
        · have E := Lib.hid (shRow_none (b := b) (by omega) HU.out)
          go_wp2
          go_roundw
          case rel => exact ⟨n + 1, by omega, by omega, by go_num, rows_next HR.out E.out, hbi⟩
          case measure => simp [intOf]; omega

set_option maxRecDepth 100000 in
set_option maxHeartbeats 2000000 in
theorem specShort_any (a b : ByteArray) (w : World) (ha : a.size ≤ 1048576) (hb : b.size ≤ 1048576) :
    Calls Tryz.prog 13 #[.string a, .string b] w fun e w' => e = .returned (.tuple #[.agg #[.int .i64 (scC a b).line, .string (scC a b).old, .string (scC a b).new], .bool (scG a b)]) ∧ Below w.heap.size w w' := by
  have hma : a.size ≤ maxLen := by unfold maxLen; omega
  have hmb : b.size ≤ maxLen := by unfold maxLen; omega
  have b0 := below_alloc (w := w) (.cells #[.int .i64 0, .string ⟨#[]⟩, .string ⟨#[]⟩] 25)
  have or : Own coV 3 (w.alloc (.cells #[.int .i64 0, .string ⟨#[]⟩, .string ⟨#[]⟩] 25)) w.heap.size 25 (some ⟨w.heap.size, 0, none⟩) 1 1 [⟨0, ⟨#[]⟩, ⟨#[]⟩⟩] := ⟨rfl, rfl, .inr ⟨_, _, _, rfl, Nat.le_refl _, heap_new rfl, by omega, by simp [maxLen], rfl, rfl⟩⟩
  go_enter Tryz.func13, Tryz.ntmps13
  go_wp2_with fail
  refine (l22Plain_any _ _ _ hma).mono ?_
  rintro e w1 ⟨rfl, rfl⟩
  cases h1 : lineB a
  · have h1' : (plainB a && decide ((a.size : Int) ≤ 40)) = false := h1
    have E := Lib.hid (show shO a b = none by unfold shO; rw [h1]; rfl)
    go_wp2
    exact bodyPost_ret (v := .tuple #[.agg #[.int .i64 0, .string ⟨#[]⟩, .string ⟨#[]⟩], .bool false]) (by simp [results, Tryz.results13, go_sem]) rfl ⟨by rw [scC_no E.out, scG_no E.out], b0⟩
  have h1' : (plainB a && decide ((a.size : Int) ≤ 40)) = true := h1
  go_wp2_with fail
  refine (l22Plain_any _ _ _ hmb).mono ?_
  rintro e w1 ⟨rfl, rfl⟩
  cases h2 : lineB b
  · have h2' : (plainB b && decide ((b.size : Int) ≤ 40)) = false := h2
    have E := Lib.hid (show shO a b = none by unfold shO; rw [h1, h2]; rfl)
    go_wp2
    exact bodyPost_ret (v := .tuple #[.agg #[.int .i64 0, .string ⟨#[]⟩, .string ⟨#[]⟩], .bool false]) (by simp [results, Tryz.results13, go_sem]) rfl ⟨by rw [scC_no E.out, scG_no E.out], b0⟩
  have h2' : (plainB b && decide ((b.size : Int) ≤ 40)) = true := h2
  cases h3 : (a.toList == b.toList)
  rotate_left
  · have E := Lib.hid (show shO a b = none by unfold shO; rw [h1, h2, h3]; rfl)
    go_wp2
    exact bodyPost_ret (v := .tuple #[.agg #[.int .i64 0, .string ⟨#[]⟩, .string ⟨#[]⟩], .bool false]) (by simp [results, Tryz.results13, go_sem]) rfl ⟨by rw [scC_no E.out, scG_no E.out], b0⟩
  have EO := Lib.hid (shO_go h1 h2 h3)
  have hsa := line_sz h1
  have hsb := line_sz h2
  clear h1 h2
  go_wp2
  generalize hw0 : w.alloc (.cells #[.int .i64 0, .string ⟨#[]⟩, .string ⟨#[]⟩] 25) = w0 at *
  clear hw0
  go_loopw [6] (fun v wr => ∃ n : Nat, 1 ≤ n ∧ n ≤ 21 ∧ v = .int .i64 n ∧ (∀ j, j + 1 < n → shRow a b (j + 1) = none) ∧ Below w0.heap.size w0 wr) (fun v _ => 21 - (intOf v).toNat)
  case atStart => exact ⟨1, by omega, by omega, rfl, fun j hj => absurd hj (by omega), Below.refl _ _⟩
  case round =>
    obtain ⟨n, hn1, hn2, rfl, hrows, hbw⟩ := hrel
    have HR := Lib.hid hrows
    clear hrows
    by_cases hlt : n ≤ 20
    rotate_left
    · have E := Lib.hid (show shO a b = none by rw [EO.out]; exact shAll_none' hn1 (by omega) HR.out)
      have or3 := or.below hbw
      have z0 := or3.cell coV_len (i := 0) (j := 0) rfl rfl
      have z1 := or3.cell coV_len (i := 0) (j := 1) rfl rfl
      have z2 := or3.cell coV_len (i := 0) (j := 2) rfl rfl
      have f0 := or3.frozen 0
      have f1 := or3.frozen 1
      have f2 := or3.frozen 2
      simp only [Nat.zero_mul, Nat.zero_add] at z0 z1 z2
      go_wp2
      exact bodyPost_ret (v := .tuple #[.agg #[.int .i64 0, .string ⟨#[]⟩, .string ⟨#[]⟩], .bool false]) (by simp [results, Tryz.results13, go_sem, z0, z1, z2]) rfl ⟨by rw [scC_no E.out, scG_no E.out], below_setCell (below_setCell (below_setCell (below_trans b0 hbw) _ _ _ (Nat.le_refl _)) _ _ _ (Nat.le_refl _)) _ _ _ (Nat.le_refl _)⟩
    · have hl1 := hlt
      have hmin : (n : Int) ≤ 20 := by omega
      go_wp2
      obtain ⟨wo, hwo⟩ : ∃ wo : World, wo = wr := ⟨_, rfl⟩
      subst hwo
      go_loopw [7] (fun v wr => ∃ i : Nat, i ≤ a.size + 1 - n ∧ v = .int .i64 i ∧ (∀ j, j < i → shOK a b n j = false) ∧ Below w0.heap.size w0 wr) (fun v _ => a.size + 1 - (intOf v).toNat)
      case atStart => exact ⟨0, by omega, rfl, fun j hj => absurd hj (by omega), hbw⟩
      case round =>
        obtain ⟨i, hi, rfl, hup, hbi⟩ := hrel
        have HU := Lib.hid hup
        clear hup
        by_cases hin : i + n ≤ a.size
        rotate_left
        · have E := Lib.hid (shRow_none (b := b) (by omega) HU.out)
          go_wp2
          go_roundw
          case rel => exact ⟨n + 1, by omega, by omega, by go_num, rows_next HR.out E.out, hbi⟩
          case measure => simp [intOf]; omega
        · by_cases c1 : a.size ≤ b.size + n
          rotate_left
          · have E := Lib.hid (show shOK a b n i = false by unfold shOK; rw [decide_eq_false c1]; rfl)
            go_wp2
            go_roundw
            case rel => exact ⟨i + 1, by omega, by go_num, upto_next HU.out E.out, hbi⟩
            case measure => simp [intOf]; omega
          · by_cases c2 : 20 < b.size + n - a.size
            · have E := Lib.hid (show shOK a b n i = false by
                have h1 : (shX a b n i).new.size = b.size + n - a.size := by
                  show (b.extract i (i + (b.size + n - a.size))).size = _
                  rw [ByteArray.size_extract]; omega
                unfold shOK coOK
                rw [h1, inB_r (show (20 : Int) < ((b.size + n - a.size : Nat) : Int) by omega)]
                simp)
              go_wp2
              go_roundw
              case rel => exact ⟨i + 1, by omega, by go_num, upto_next HU.out E.out, hbi⟩
              case measure => simp [intOf]; omega
            · have hw1 : IntKind.i64.wrap ((i : Int) + (n : Int)) = ((i + n : Nat) : Int) := by rw [IntWalk.i64_in _ (by omega)]; simp
              have hw2 : IntKind.i64.wrap ((i : Int) + ((b.size : Int) - (a.size : Int) + (n : Int))) = ((i + (b.size + n - a.size) : Nat) : Int) := by rw [IntWalk.i64_in _ (by omega)]; omega
              have hb1 : i ≤ i + (b.size + n - a.size) := by omega
              have hb2 : i + (b.size + n - a.size) ≤ b.size := by omega
              have hb3 : i + n ≤ a.size := hin
              have hb4 : i ≤ i + n := by omega
              have HC1 := Lib.hid c1
              go_wp2_with fail
              go_region
              go_wp2_with fail
              obtain ⟨so, hso⟩ : ∃ so, so = a.extract i (i + n) := ⟨_, rfl⟩
              obtain ⟨sn, hsn⟩ : ∃ sn, sn = b.extract i (i + (b.size + n - a.size)) := ⟨_, rfl⟩
              have hz1 : so.size = n := by rw [hso, ByteArray.size_extract]; omega
              have hz2 : sn.size ≤ 40 := by rw [hsn, ByteArray.size_extract]; omega
              have HX : Hid (shX a b n i = ⟨0, so, sn⟩) := by show _ = _; unfold shX; rw [hso, hsn]
              rw [← hso, ← hsn]
              have hmo : so.size ≤ maxLen := by unfold maxLen; omega
              have hmn : sn.size ≤ maxLen := by unfold maxLen; omega
              have b3 : Below wr.heap.size wr (wr.alloc (.cells #[.int .i64 0, .string so, .string sn] 25)).drew := (below_alloc _).drew
              have q0 := fun j => cell_of_row (wr.alloc (.cells #[.int .i64 0, .string so, .string sn] 25)).drew wr.heap.size j _ _ _ (heap_new rfl)
              have c0 : (wr.alloc (.cells #[.int .i64 0, .string so, .string sn] 25)).drew.cell? ⟨wr.heap.size, 0, none⟩ = some (.int .i64 0) := q0 0
              have c1' : (wr.alloc (.cells #[.int .i64 0, .string so, .string sn] 25)).drew.cell? ⟨wr.heap.size, 1, none⟩ = some (.string so) := q0 1
              have c2' : (wr.alloc (.cells #[.int .i64 0, .string so, .string sn] 25)).drew.cell? ⟨wr.heap.size, 2, none⟩ = some (.string sn) := q0 2
              clear q0 hso hsn c1 c2
              generalize hwq : (wr.alloc (.cells #[.int .i64 0, .string so, .string sn] 25)).drew = w3 at *
              clear hwq
              have t3 := below_trans hbi b3
              refine (l22Line_any a ⟨0, so, sn⟩ _ (by omega) (by show so.size ≤ _; omega) (by show sn.size ≤ _; omega)).mono ?_
              rintro e w4 ⟨rfl, b4⟩
              replace c0 := cell_below b4 c0
              replace c1' := cell_below b4 c1'
              replace c2' := cell_below b4 c2'
              replace t3 := below_trans t3 b4
              clear b3 b4 hz1 hz2
              have HG := Lib.hid (show lineG a ⟨0, so, sn⟩ = (coOK ⟨0, so, sn⟩ && impG a ⟨0, so, sn⟩) by unfold lineG impG; simp [Bool.and_assoc])
              cases g1 : lineG a ⟨0, so, sn⟩
              · have E := Lib.hid (show shOK a b n i = false by unfold shOK; rw [HX.out, ← HG.out, g1]; simp)
                go_wp2
                go_roundw
                case rel => exact ⟨i + 1, by omega, by go_num, upto_next HU.out E.out, t3⟩
                case measure => simp [intOf]; omega
              have HI := Lib.hid (show lineS a ⟨0, so, sn⟩ = impS a ⟨0, so, sn⟩ by
                have h := g1
                rw [HG.out] at h
                unfold impG at h
                simp only [Bool.and_eq_true] at h
                rw [lineS_yes h.1 h.2.1, impS_yes h.2.1])
              cases g3 : ((lineS a ⟨0, so, sn⟩).toList == b.toList)
              · have E := Lib.hid (show shOK a b n i = false by unfold shOK; rw [HX.out, ← HI.out, g3]; simp)
                go_wp2
                go_roundw
                case rel => exact ⟨i + 1, by omega, by go_num, upto_next HU.out E.out, t3⟩
                case measure => simp [intOf]; omega
              have E := Lib.hid (show shOK a b n i = true by unfold shOK; rw [HX.out, ← HG.out, ← HI.out, g1, g3, decide_eq_true HC1.out]; rfl)
              have E2 := Lib.hid (show shO a b = some ⟨0, so, sn⟩ by rw [EO.out, ← HX.out]; exact shAll_some' hn1 hl1 (shRow_some hin E.out HU.out) HR.out)
              have or3 := or.below t3
              have z0 := or3.cell coV_len (i := 0) (j := 0) rfl rfl
              have z1 := or3.cell coV_len (i := 0) (j := 1) rfl rfl
              have z2 := or3.cell coV_len (i := 0) (j := 2) rfl rfl
              have f0 := or3.frozen 0
              have f1 := or3.frozen 1
              have f2 := or3.frozen 2
              simp only [Nat.zero_mul, Nat.zero_add] at z0 z1 z2
              go_wp2
              exact bodyPost_ret (v := .tuple #[.agg #[.int .i64 0, .string so, .string sn], .bool true]) (by simp [results, Tryz.results13, go_sem, z0, z1, z2]) rfl ⟨by rw [scC_yes E2.out, scG_yes E2.out], below_setCell (below_setCell (below_setCell (below_trans b0 t3) _ _ _ (Nat.le_refl _)) _ _ _ (Nat.le_refl _)) _ _ _ (Nat.le_refl _)⟩

end Go.Proofs.YtmahfkimeclcbaaGreatDoor
