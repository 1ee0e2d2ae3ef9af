/-
  YtmahfkimeclcbaaCorH: corrections: both UndoCorrection.
-/
import Derived.Test.YtmahfkimeclcbaaCorG
import Derived.Deep.DeepCutAuto
import Derived.StillTailTactics
namespace Go.Proofs.Ytmahfkimeclcbaa
open Go Go.RowKit Go.Sort
set_option linter.unusedVariables false

/-- The line before a correction that changed place i. -/
def befB (s : ByteArray) (x : CO) (i : Nat) : ByteArray := s.extract 0 i ++ x.old ++ s.extract (i + x.new.size) s.size
/-- Such a line counts. -/
def good1 (s : ByteArray) (x : CO) (b : ByteArray) : Bool := impG b x && lineB b && ((impS b x).toList == s.toList)
def cand1 (s : ByteArray) (x : CO) (a : Int) : Option ByteArray := if good1 s x (befB s x a.toNat) then some (befB s x a.toNat) else none
def cands (s : ByteArray) (x : CO) (k : Nat) : List ByteArray := (occs s x.new k).filterMap (cand1 s x)
/-- The program's collecting: no text twice. -/
def addI (f : List ByteArray) (b : ByteArray) : List ByteArray := if Lib.containsS f b then f else f ++ [b]
/-- The reference's: no text that is the first one's. -/
def addS (f : List ByteArray) (b : ByteArray) : List ByteArray := if f.head? = some b then f else f ++ [b]
/-- The only one, if there is one. -/
def only (l : List ByteArray) : Option ByteArray := match l with
  | [] => none
  | b :: t => if t.all (fun c => decide (c = b)) then some b else none
/-- What both know of their lists. -/
def Found (l f : List ByteArray) : Prop := (l = [] ∧ f = []) ∨ ∃ b t g, l = b :: t ∧ f = b :: g ∧ (g = [] ↔ t.all (fun c => decide (c = b)) = true)
theorem found_nil : Found [] [] := .inl ⟨rfl, rfl⟩
theorem found_I {l f : List ByteArray} (h : Found l f) (c : ByteArray) : Found (l ++ [c]) (addI f c) := by
  rcases h with ⟨rfl, rfl⟩ | ⟨b, t, g, rfl, rfl, h⟩
  · exact .inr ⟨c, [], [], rfl, rfl, by simp⟩
  · unfold addI
    by_cases hc : Lib.containsS (b :: g) c = true
    · rw [if_pos hc]
      refine .inr ⟨b, t ++ [c], g, rfl, rfl, ?_⟩
      rw [h, List.all_append]
      constructor
      · intro h1
        have hg := h.2 h1
        subst hg
        have hc2 := (Lib.containsS_iff _ _).1 hc
        rw [List.mem_singleton] at hc2
        rw [h1]
        simp [hc2]
      · intro h1
        rw [Bool.and_eq_true] at h1
        exact h1.1
    · rw [if_neg hc]
      refine .inr ⟨b, t ++ [c], g ++ [c], rfl, rfl, ?_⟩
      constructor
      · intro h1; simp at h1
      · intro h1
        rw [List.all_append, Bool.and_eq_true] at h1
        exfalso
        apply hc
        have h2 := h1.2
        simp at h2
        rw [h2, Lib.containsS_iff]
        simp
theorem found_S {l f : List ByteArray} (h : Found l f) (c : ByteArray) : Found (l ++ [c]) (addS f c) := by
  rcases h with ⟨rfl, rfl⟩ | ⟨b, t, g, rfl, rfl, h⟩
  · exact .inr ⟨c, [], [], rfl, rfl, by simp⟩
  · unfold addS
    by_cases hc : b = c
    · subst hc
      rw [if_pos (show (b :: g).head? = some b from rfl)]
      refine .inr ⟨b, t ++ [b], g, rfl, rfl, ?_⟩
      rw [h, List.all_append]
      simp
    · rw [if_neg (by simpa using hc)]
      refine .inr ⟨b, t ++ [c], g ++ [c], rfl, rfl, ?_⟩
      constructor
      · intro h1; simp at h1
      · intro h1
        rw [List.all_append, Bool.and_eq_true] at h1
        exfalso
        apply hc
        have := h1.2
        simp at this
        exact this.symm
theorem found_one {l f : List ByteArray} (h : Found l f) (h1 : f.length = 1) : ∃ b, f = [b] ∧ only l = some b := by
  rcases h with ⟨rfl, rfl⟩ | ⟨b, t, g, rfl, rfl, h⟩
  · simp at h1
  · have hg : g = [] := List.eq_nil_of_length_eq_zero (by simpa using h1)
    exact ⟨b, by rw [hg], by rw [only, if_pos (h.1 hg)]⟩
theorem found_no {l f : List ByteArray} (h : Found l f) (h1 : f.length ≠ 1) : only l = none := by
  rcases h with ⟨rfl, rfl⟩ | ⟨b, t, g, rfl, rfl, h⟩
  · rfl
  · rw [only, if_neg]
    intro h2
    rw [h.2 h2] at h1
    simp at h1
theorem found_len_I (f : List ByteArray) (c : ByteArray) : (addI f c).length ≤ f.length + 1 := by unfold addI; split <;> simp
theorem cands_no {s : ByteArray} {x : CO} {k : Nat} (h : Lib.occAt s.data.toList x.new.data.toList k = false) : cands s x (k + 1) = cands s x k := by unfold cands; rw [occs_no h]
theorem cands_yes {s : ByteArray} {x : CO} {k : Nat} (h : Lib.occAt s.data.toList x.new.data.toList k = true) (h1 : good1 s x (befB s x k) = true) : cands s x (k + 1) = cands s x k ++ [befB s x k] := by
  unfold cands; rw [occs_yes h, List.filterMap_append]; simp [cand1, h1]
theorem cands_bad {s : ByteArray} {x : CO} {k : Nat} (h : Lib.occAt s.data.toList x.new.data.toList k = true) (h1 : good1 s x (befB s x k) = false) : cands s x (k + 1) = cands s x k := by
  unfold cands; rw [occs_yes h, List.filterMap_append]; simp [cand1, h1]
/-- All of them. -/
def candsAll (s : ByteArray) (x : CO) : List ByteArray := cands s x (s.size + 1 - x.new.size)
/-- UndoCorrection's results. -/
def undoO (l : List ByteArray) (x : CO) : Option ByteArray := if sheetB l && coOK x && inB x.line 0 ((l.length : Int) - 1) then only (candsAll (lineAt l x) x) else none
def undoG (l : List ByteArray) (x : CO) : Bool := (undoO l x).isSome
def undoL (l : List ByteArray) (x : CO) : List ByteArray := match undoO l x with
  | none => []
  | some b => l.set x.line.toNat b
theorem undoG_no {l : List ByteArray} {x : CO} (h : undoO l x = none) : undoG l x = false := by simp [undoG, h]
theorem undoL_no {l : List ByteArray} {x : CO} (h : undoO l x = none) : undoL l x = [] := by simp [undoL, h]
theorem undoG_yes {l : List ByteArray} {x : CO} {b : ByteArray} (h : undoO l x = some b) : undoG l x = true := by simp [undoG, h]
theorem undoL_yes {l : List ByteArray} {x : CO} {b : ByteArray} (h : undoO l x = some b) : undoL l x = l.set x.line.toNat b := by simp [undoL, h]
theorem undoL_len (l : List ByteArray) (x : CO) : (undoL l x).length ≤ l.length := by
  cases h : undoO l x with
  | none => rw [undoL_no h]; simp
  | some b => rw [undoL_yes h]; simp

theorem line_sz {s : ByteArray} (h : lineB s = true) : s.size ≤ 40 := by
  unfold lineB at h
  simp only [Bool.and_eq_true, decide_eq_true_eq] at h
  omega
theorem sheet_line {l : List ByteArray} {s : ByteArray} {k : Nat} (h : sheetB l = true) (hs : l[k]? = some s) : lineB s = true := by
  unfold sheetB at h
  rw [Bool.and_eq_true] at h
  exact List.all_eq_true.1 h.1 s (List.mem_of_getElem? hs)
theorem contains_any (A : Option Addr) (n c : Nat) (xs : List ByteArray) (b : ByteArray) (w : World) (ha : Rd stV 1 w A n c xs) :
    Calls Try.prog 33 #[.slice A n c, .string b] w fun e w' => e = .returned (.bool (Lib.containsS xs b)) ∧ w' = w := by
  have hn := ha.le
  by_cases h0 : n = 0
  · subst h0
    have e1 := List.eq_nil_of_length_eq_zero ha.len
    subst e1
    exact Try.slices_Contains_string_empty A c b w
  · obtain ⟨b1, o1, rfl, h1⟩ := ha.at_ (by omega)
    have g1 : ∀ j, j < xs.length → w.cell? ⟨b1, o1 + j, none⟩ = some (.string (xs.getD j ByteArray.empty)) := fun j hj => by
      have := h1 j xs[j] (List.getElem?_eq_getElem hj) 0 _ rfl
      simpa [List.getD, List.getElem?_eq_getElem hj] using this
    have := Try.slices_Contains_string b1 o1 n c xs b w (by rw [ha.len]; exact Nat.le_refl _) hn g1
    rw [List.take_of_length_le (by rw [ha.len]; exact Nat.le_refl _)] at this
    exact this

set_option maxRecDepth 100000 in
set_option maxHeartbeats 2000000 in
theorem implUndo_any (A : Option Addr) (n c : Nat) (l : List ByteArray) (x : CO) (mx : Int) (w : World) (ha : Rd stV 1 w A n c l) (hn : n ≤ 1048576) (hg : ∀ s ∈ l, s.size ≤ 1048576) (h0 : x.old.size ≤ 1048576) (h1 : x.new.size ≤ 1048576) (hM : w.cell? ⟨0, 0, none⟩ = some (.int .i64 mx)) :
    Calls Try.prog 12 #[.slice A n c, .agg #[.int .i64 x.line, .string x.old, .string x.new]] w fun e w' => (∃ B q d, e = .returned (.tuple #[.slice B q d, .bool (undoG l x)]) ∧ Own stV 1 w' w.heap.size 9 B q d (undoL l x)) ∧ Below w.heap.size w w' := by
  obtain ⟨i0, hi, hz0, hz1, hz2⟩ := info_parts Try.infoSt'
  have HL := Lib.hid ha.len
  have hgm : ∀ s ∈ l, s.size ≤ maxLen := fun s hs => by have := hg s hs; unfold maxLen; omega
  have hm0 : x.old.size ≤ maxLen := by unfold maxLen; omega
  have hm1 : x.new.size ≤ maxLen := by unfold maxLen; omega
  have b0 := below_alloc (w := w) (.cells #[.int .i64 x.line, .string x.old, .string x.new] 26)
  have q0 := fun i => cell_of_row (w.alloc (.cells #[.int .i64 x.line, .string x.old, .string x.new] 26)) w.heap.size i _ _ _ (heap_new rfl)
  have c0 : (w.alloc (.cells #[.int .i64 x.line, .string x.old, .string x.new] 26)).cell? ⟨w.heap.size, 0, none⟩ = some (.int .i64 x.line) := q0 0
  have c1 : (w.alloc (.cells #[.int .i64 x.line, .string x.old, .string x.new] 26)).cell? ⟨w.heap.size, 1, none⟩ = some (.string x.old) := q0 1
  have c2 : (w.alloc (.cells #[.int .i64 x.line, .string x.old, .string x.new] 26)).cell? ⟨w.heap.size, 2, none⟩ = some (.string x.new) := q0 2
  clear q0
  have HM := Lib.hid (cell_below b0 hM)
  clear hM
  go_enter Try.func12, Try.ntmps12
  go_wp2_with fail
  refine (implIsSheet_any _ _ _ _ _ (ha.below b0) hgm).mono ?_
  rintro e w1 ⟨rfl, rfl⟩
  cases h2 : sheetB l
  · have E := Lib.hid (show undoO l x = none by unfold undoO; rw [h2]; rfl)
    go_wp2
    go_ret2
    exact ⟨⟨_, _, _, ret_sl_bool (undoG_no E.out).symm, by rw [undoL_no E.out]; exact Own.nil _ _ _⟩, b0⟩
  have H2 := Lib.hid h2
  go_wp2_with fail
  refine (isCorrection_any _ _ hm0 hm1).mono ?_
  rintro e w1 ⟨rfl, b1⟩
  replace c0 := cell_below b1 c0
  replace c1 := cell_below b1 c1
  replace c2 := cell_below b1 c2
  replace HM := Lib.hid (cell_below b1 HM.out)
  have t1 := below_trans b0 b1
  cases h3 : coOK x
  · have E := Lib.hid (show undoO l x = none by unfold undoO; rw [h2, h3]; rfl)
    go_wp2
    go_ret2
    exact ⟨⟨_, _, _, ret_sl_bool (undoG_no E.out).symm, by rw [undoL_no E.out]; exact Own.nil _ _ _⟩, t1⟩
  have H3 := Lib.hid h3
  go_wp2_with fail
  refine (inside_any _ _ _ _).mono ?_
  rintro e w2 ⟨rfl, rfl⟩
  cases h4 : inB x.line 0 ((n : Int) - 1)
  · have E := Lib.hid (show undoO l x = none by unfold undoO; rw [HL.out, h2, h3, h4]; rfl)
    go_wp2
    go_ret2
    exact ⟨⟨_, _, _, ret_sl_bool (undoG_no E.out).symm, by rw [undoL_no E.out]; exact Own.nil _ _ _⟩, t1⟩
  have h5 := inB_iff.1 h4
  have H4 := Lib.hid h4
  obtain ⟨k0, hk0⟩ := Int.eq_ofNat_of_zero_le h5.1
  have HK := Lib.hid hk0
  have hkn : k0 < n := by omega
  obtain ⟨b, o, s, rfl, hs, cs⟩ := (ha.below t1).st hkn
  have HS := Lib.hid hs
  have hsz := line_sz (sheet_line h2 hs)
  have HA : Hid (lineAt l x = s) := by show _ = _; unfold lineAt; rw [HK.out, Int.toNat_natCast, List.getD, HS.out]; rfl
  have HO : Hid (undoO l x = only (candsAll s x)) := by show _ = _; unfold undoO; rw [HL.out, h2, h3, h4, HA.out]; rfl
  have hp := coOK_old h3
  rw [hk0] at c0
  clear h2 h3 h4 h5 hk0 hs hg hgm
  have oe := Own.empty stV 1 w1 9
  have ba := below_alloc (w := w1) (.cells #[] 9)
  go_wp2
  go_loopw [7, 8] (fun v i wr => ∃ (k : Nat) (F : List ByteArray), k ≤ s.size + 1 - x.new.size ∧ i = .int .i64 k ∧ (∃ B q d, v = .slice B q d ∧ q ≤ k ∧ Own stV 1 wr w1.heap.size 9 B q d F) ∧ Found (cands s x k) F ∧ Below w1.heap.size w1 wr) (fun _ i _ => s.size + 1 - (intOf i).toNat)
  case atStart => exact ⟨0, [], by omega, rfl, ⟨_, 0, 0, rfl, Nat.le_refl _, oe⟩, found_nil, ba⟩
  case round =>
    clear oe ba
    obtain ⟨k, F, hk, rfl, ⟨B, q, d, rfl, hq, ho⟩, hf, hbw⟩ := hrel
    replace c0 := cell_below hbw c0
    replace c1 := cell_below hbw c1
    replace c2 := cell_below hbw c2
    replace cs := cell_below hbw cs
    have HF := Lib.hid hf
    clear hf
    by_cases hlt : k + x.new.size ≤ s.size
    · have hpe := (Lib.occ_of_piece s x.new k hlt).symm
      have hw : IntKind.i64.wrap ((k : Int) + (x.new.size : Int)) = ((k + x.new.size : Nat) : Int) := by rw [IntWalk.i64_in _ (by omega)]; simp
      cases hc : Lib.occAt s.data.toList x.new.data.toList k
      · have E := Lib.hid (cands_no (x := x) hc)
        rw [hc] at hpe
        clear hc
        go_wp2_with fail
        go_quiet (fail)
        go_wp2
        go_roundw
        case rel => exact ⟨k + 1, F, by omega, by go_num, ⟨B, q, d, rfl, by omega, ho.below (below_drewN (Below.refl _ _) _)⟩, by rw [E.out]; exact HF.out, below_drewN hbw _⟩
        case measure => simp [intOf]; omega
      · obtain ⟨bb, hbb⟩ : ∃ bb, bb = s.extract 0 k ++ x.old ++ s.extract (k + x.new.size) s.size := ⟨_, rfl⟩
        have hbz : bb.size ≤ 2097152 := by rw [hbb]; simp only [ByteArray.size_append, ByteArray.size_extract]; omega
        have HB : Hid (bb = befB s x k) := hbb
        have HC := Lib.hid hc
        have HBB := Lib.hid hbb
        rw [hc] at hpe
        clear hc hbb
        go_wp2_with fail
        go_quiet (fail)
        have bq := below_drewN (Below.refl wr.heap.size wr) nq
        go_wp2_with fail
        generalize hw3 : wr.drewN nq = w3 at *
        clear hw3
        replace c0 := cell_below bq c0
        replace c1 := cell_below bq c1
        replace c2 := cell_below bq c2
        replace cs := cell_below bq cs
        replace ho := ho.below bq
        replace hbw := below_trans hbw bq
        clear bq
        go_quiet (fail)
        have bq := below_drewN (Below.refl w3.heap.size w3) nq
        go_wp2_with fail
        rw [← HBB.out]
        generalize hw3 : w3.drewN nq = w4 at *
        clear hw3
        replace c0 := cell_below bq c0
        replace c1 := cell_below bq c1
        replace c2 := cell_below bq c2
        replace cs := cell_below bq cs
        replace ho := ho.below bq
        replace hbw := below_trans hbw bq
        clear bq
        have hcl : ∀ w', w'.cell? ⟨0, 0, none⟩ = some (.int .i64 mx) → Calls Try.prog 32 #[.string bb, .agg #[.int .i64 k0, .string x.old, .string x.new]] w' fun e w'' => e = .returned (.tuple #[.string (impS bb x), .bool (impG bb x)]) ∧ Below w'.heap.size w' w'' := fun w' hM' => by
          rw [← HK.out]
          exact correctLine_any bb x mx w' (by omega) (by omega) (by omega) hp hM'
        refine (hcl _ (cell_below hbw HM.out)).mono ?_
        rintro e w5 ⟨rfl, b5⟩
        clear hcl
        replace ho := ho.below b5
        replace hbw := below_trans hbw b5
        clear b5 c0 c1 cs
        have hmb : bb.size ≤ maxLen := by unfold maxLen; omega
        cases g1 : impG bb x
        · have E := Lib.hid (cands_bad HC.out (by rw [← HB.out]; unfold good1; rw [g1]; rfl))
          go_wp2
          go_roundw
          case rel => exact ⟨k + 1, F, by omega, by go_num, ⟨B, q, d, rfl, by omega, ho⟩, by rw [E.out]; exact HF.out, hbw⟩
          case measure => simp [intOf]; omega
        have G1 := Lib.hid g1
        go_wp2_with fail
        refine (isLine_any _ _ hmb).mono ?_
        rintro e w6 ⟨rfl, rfl⟩
        cases g2 : lineB bb
        · have E := Lib.hid (cands_bad HC.out (by rw [← HB.out]; unfold good1; rw [g1, g2]; rfl))
          go_wp2
          go_roundw
          case rel => exact ⟨k + 1, F, by omega, by go_num, ⟨B, q, d, rfl, by omega, ho⟩, by rw [E.out]; exact HF.out, hbw⟩
          case measure => simp [intOf]; omega
        have G2 := Lib.hid g2
        cases g3 : ((impS bb x).toList == s.toList)
        · have E := Lib.hid (cands_bad HC.out (by rw [← HB.out]; unfold good1; rw [g1, g2, g3]; rfl))
          go_wp2
          go_roundw
          case rel => exact ⟨k + 1, F, by omega, by go_num, ⟨B, q, d, rfl, by omega, ho⟩, by rw [E.out]; exact HF.out, hbw⟩
          case measure => simp [intOf]; omega
        have E := Lib.hid (cands_yes HC.out (by rw [← HB.out]; unfold good1; rw [g1, g2, g3]; rfl))
        rw [← HB.out] at E
        go_wp2_with fail
        refine (contains_any _ _ _ _ _ _ (ho.rd stV_len)).mono ?_
        rintro e w6 ⟨rfl, rfl⟩
        have HF2 := Lib.hid (found_I HF.out bb)
        cases g4 : Lib.containsS F bb
        · have E2 := Lib.hid (show addI F bb = F ++ [bb] by unfold addI; rw [g4]; rfl)
          go_wp2_with (at_builtin; refine wpList_push rfl _ _ _ rfl w1.heap.size 9 i0 (.string ByteArray.empty) 1 16 Try.underlying24 hi hz0 hz1 hz2 rfl (by omega) stV stV_len one_st B q d F rfl ho bb _ rfl _ rfl (by first | rfl | simp) (by simp only [maxLen]; omega) (by omega) hbw.size ?_; intro B3 d3 w7 ho3 hg3)
          go_roundw
          case rel => exact ⟨k + 1, F ++ [bb], by omega, by go_num, ⟨B3, q + 1, d3, rfl, by omega, ho3⟩, by rw [E.out, ← E2.out]; exact HF2.out, below_push hbw ho hg3 (Nat.le_refl _)⟩
          case measure => simp [intOf]; omega
        · have E2 := Lib.hid (show addI F bb = F by unfold addI; rw [g4]; rfl)
          go_wp2
          go_roundw
          case rel => exact ⟨k + 1, F, by omega, by go_num, ⟨B, q, d, rfl, by omega, ho⟩, by rw [E.out, ← E2.out]; exact HF2.out, hbw⟩
          case measure => simp [intOf]; omega
    · obtain rfl : k = s.size + 1 - x.new.size := by omega
      have HQ := Lib.hid ho.len
      by_cases hq1 : q = 1
      · subst hq1
        obtain ⟨bb, hF, hon⟩ := found_one HF.out HQ.out
        have E := Lib.hid (show undoO l x = some bb by rw [HO.out]; exact hon)
        subst hF
        have HON := Lib.hid hon
        clear hon
        have har := ha.below (below_trans t1 hbw)
        obtain ⟨gf, rfl⟩ := ho.form (by omega)
        have qf := ho.cell stV_len (i := 0) (j := 0) rfl rfl
        go_wp2_with ((
          at_builtin
          refine wpList_pushAll rfl _ _ _ rfl wr.heap.size 9 i0 (.string ByteArray.empty) 1 16 Try.underlying24 hi hz0 hz1 hz2 rfl (by omega) stV stV_len one_st _ 0 0 [] rfl (Own.empty stV 1 _ 9) _ n c l rfl (har.alloc _) (by simp only [maxLen]; omega) (by omega) (by first | simp; done | (simp; omega)) ?_
          intro B1 d1 w3 o1 g1
          simp only [Nat.zero_add, List.nil_append] at o1
          have b3 : Below wr.heap.size wr w3 := (below_alloc _).grown g1 (by simp) (fun k hk => by simp [blockOf] at hk; omega)))
        replace c0 := cell_below b3 c0
        replace qf := cell_below b3 qf
        obtain ⟨g, rfl⟩ := o1.form (by omega)
        have hkl : k0 < l.length := by rw [o1.len]; exact hkn
        have hx : l[k0]? = some l[k0] := List.getElem?_eq_getElem hkl
        simp only [Nat.add_zero, Nat.mul_one] at qf
        have HX := Lib.hid hx
        have HO1 := Lib.hid o1
        have HO2 := Lib.hid ho
        clear hx ha har o1 ho
        go_still_tail 7, (by kernel_rfl)
        change wpList _ _ _ _ _ w3.drew
        have o1 := HO1.out.drew
        have b4 : Below wr.heap.size wr w3.drew := b3.drew
        generalize hw4 : w3.drew = w4 at *
        clear hw4 c0 qf
        have f0 := o1.frozen (k0 * 1 + 0)
        have q0 := o1.cell stV_len (j := 0) HX.out rfl
        obtain ⟨s1, e1⟩ := o1.store stV_len (i := k0) (j := 0) HX.out (by omega) bb (.string bb) rfl
        have hgl := o1.lt rfl
        simp only [Nat.add_zero, Nat.mul_one] at f0 q0 s1 e1
        have t4 := below_trans (below_trans t1 hbw) b4
        have S1 := Lib.hid (s1.base_le (Nat.le_trans t1.size hbw.size))
        have T1 := Lib.hid (below_setCell t4 g k0 (.string bb) (Nat.le_trans t1.size (Nat.le_trans hbw.size hgl.1)))
        clear s1 e1 o1 hgl t4 b4
        go_wp2
        go_ret2
        exact ⟨⟨_, _, _, ret_sl_bool (undoG_yes E.out).symm, by rw [undoL_yes E.out, HK.out, Int.toNat_natCast]; exact S1.out⟩, T1.out⟩
      · have E := Lib.hid (show undoO l x = none by rw [HO.out]; exact found_no HF.out (by rw [HQ.out]; exact hq1))
        have hq2 : ¬((q : Int) = 1) := by omega
        clear hq1
        go_wp2
        go_ret2
        exact ⟨⟨_, _, _, ret_sl_bool (undoG_no E.out).symm, by rw [undoL_no E.out]; exact Own.nil _ _ _⟩, below_trans t1 hbw⟩

/-- The lines of the first k places. -/
def candsP (s : ByteArray) (x : CO) (k : Nat) : List ByteArray := ((places s x.new).take k).filterMap (cand1 s x)
theorem candsP_yes {s : ByteArray} {x : CO} {k i : Nat} (h : (places s x.new)[k]? = some (i : Int)) (h1 : good1 s x (befB s x i) = true) : candsP s x (k + 1) = candsP s x k ++ [befB s x i] := by
  unfold candsP; rw [List.take_add_one, h, List.filterMap_append]; simp [cand1, h1]
theorem candsP_bad {s : ByteArray} {x : CO} {k i : Nat} (h : (places s x.new)[k]? = some (i : Int)) (h1 : good1 s x (befB s x i) = false) : candsP s x (k + 1) = candsP s x k := by
  unfold candsP; rw [List.take_add_one, h, List.filterMap_append]; simp [cand1, h1]
theorem candsP_all {s : ByteArray} {x : CO} {k : Nat} (h : (places s x.new).length ≤ k) : candsP s x k = candsAll s x := by
  unfold candsP; rw [List.take_of_length_le h]; rfl
theorem place_in {s p : ByteArray} {k : Nat} {a : Int} (h : (places s p)[k]? = some a) : ∃ i : Nat, a = i ∧ i + p.size ≤ s.size := by
  have h2 := List.mem_of_getElem? h
  unfold places occs at h2
  obtain ⟨i, hi, e⟩ := List.mem_map.1 h2
  have := List.mem_range.1 (List.mem_filter.1 hi).1
  exact ⟨i, e.symm, by omega⟩

set_option maxRecDepth 100000 in
set_option maxHeartbeats 2000000 in
theorem specUndo_any (A : Option Addr) (n c : Nat) (l : List ByteArray) (x : CO) (w : World) (ha : Rd stV 1 w A n c l) (hn : n ≤ 1048576) (hg : ∀ s ∈ l, s.size ≤ 1048576) (h0 : x.old.size ≤ 1048576) (h1 : x.new.size ≤ 1048576) :
    Calls Try.prog 14 #[.slice A n c, .agg #[.int .i64 x.line, .string x.old, .string x.new]] w fun e w' => (∃ B q d, e = .returned (.tuple #[.slice B q d, .bool (undoG l x)]) ∧ Own stV 1 w' w.heap.size 9 B q d (undoL l x)) ∧ Below w.heap.size w w' := by
  obtain ⟨i0, hi, hz0, hz1, hz2⟩ := info_parts Try.infoSt'
  have HL := Lib.hid ha.len
  have hgm : ∀ s ∈ l, s.size ≤ maxLen := fun s hs => by have := hg s hs; unfold maxLen; omega
  have hm0 : x.old.size ≤ maxLen := by unfold maxLen; omega
  have hm1 : x.new.size ≤ maxLen := by unfold maxLen; omega
  have b0 := below_alloc (w := w) (.cells #[.int .i64 x.line, .string x.old, .string x.new] 26)
  have q0 := fun i => cell_of_row (w.alloc (.cells #[.int .i64 x.line, .string x.old, .string x.new] 26)) w.heap.size i _ _ _ (heap_new rfl)
  have c0 : (w.alloc (.cells #[.int .i64 x.line, .string x.old, .string x.new] 26)).cell? ⟨w.heap.size, 0, none⟩ = some (.int .i64 x.line) := q0 0
  have c1 : (w.alloc (.cells #[.int .i64 x.line, .string x.old, .string x.new] 26)).cell? ⟨w.heap.size, 1, none⟩ = some (.string x.old) := q0 1
  have c2 : (w.alloc (.cells #[.int .i64 x.line, .string x.old, .string x.new] 26)).cell? ⟨w.heap.size, 2, none⟩ = some (.string x.new) := q0 2
  clear q0
  go_enter Try.func14, Try.ntmps14
  go_wp2_with fail
  generalize hgw0 : w.alloc (.cells #[.int .i64 x.line, .string x.old, .string x.new] 26) = w0 at *
  clear hgw0
  refine (l22Sheet_any _ _ _ _ _ (ha.below b0) hgm).mono ?_
  rintro e w1 ⟨rfl, rfl⟩
  cases h2 : sheetB l
  · have E := Lib.hid (show undoO l x = none by unfold undoO; rw [h2]; rfl)
    go_wp2
    go_ret2
    exact ⟨⟨_, _, _, ret_sl_bool (undoG_no E.out).symm, by rw [undoL_no E.out]; exact (Own.empty stV 1 _ 9).base_le b0.size⟩, below_trans b0 (below_alloc _)⟩
  have H2 := Lib.hid h2
  go_wp2_with fail
  refine (l1In_any _ _ _ _).mono ?_
  rintro e w2 ⟨rfl, rfl⟩
  cases h4 : inB x.line 0 ((n : Int) - 1)
  · have E := Lib.hid (show undoO l x = none by unfold undoO; rw [HL.out, h2, h4]; simp)
    go_wp2
    go_ret2
    exact ⟨⟨_, _, _, ret_sl_bool (undoG_no E.out).symm, by rw [undoL_no E.out]; exact (Own.empty stV 1 _ 9).base_le b0.size⟩, below_trans b0 (below_alloc _)⟩
  have h5 := inB_iff.1 h4
  have H4 := Lib.hid h4
  go_wp2_with fail
  refine (l22One_any _ _ hm0 hm1).mono ?_
  rintro e w1 ⟨rfl, b1⟩
  replace c0 := cell_below b1 c0
  replace c1 := cell_below b1 c1
  replace c2 := cell_below b1 c2
  have t1 := below_trans b0 b1
  cases h3 : coOK x
  · have E := Lib.hid (show undoO l x = none by unfold undoO; rw [h2, h3]; rfl)
    go_wp2
    go_ret2
    exact ⟨⟨_, _, _, ret_sl_bool (undoG_no E.out).symm, by rw [undoL_no E.out]; exact (Own.empty stV 1 _ 9).base_le t1.size⟩, below_trans t1 (below_alloc _)⟩
  have H3 := Lib.hid h3
  obtain ⟨k0, hk0⟩ := Int.eq_ofNat_of_zero_le h5.1
  have HK := Lib.hid hk0
  have hkn : k0 < n := by omega
  obtain ⟨b, o, s, rfl, hs, cs⟩ := (ha.below t1).st hkn
  have HS := Lib.hid hs
  have hsz := line_sz (sheet_line h2 hs)
  have HA : Hid (lineAt l x = s) := by show _ = _; unfold lineAt; rw [HK.out, Int.toNat_natCast, List.getD, HS.out]; rfl
  have HO : Hid (undoO l x = only (candsAll s x)) := by show _ = _; unfold undoO; rw [HL.out, h2, h3, h4, HA.out]; rfl
  rw [hk0] at c0
  clear h2 h3 h4 h5 hk0 hs hg hgm
  go_wp2_with fail
  refine (l22Places_any _ _ _ (by omega) (by omega)).mono ?_
  rintro e w2 ⟨⟨P, qp, dp, rfl, op⟩, b2⟩
  replace c0 := cell_below b2 c0
  replace c1 := cell_below b2 c1
  replace c2 := cell_below b2 c2
  replace cs := cell_below b2 cs
  have t2 := below_trans t1 b2
  have oe := Own.empty stV 1 w2 9
  have ba := below_alloc (w := w2) (.cells #[] 9)
  have HP := Lib.hid op.len
  have hqp : qp ≤ 41 := by
    rw [← op.len]
    unfold places
    have := occs_len s x.new (s.size + 1 - x.new.size)
    omega
  have rp := op.rd inV_len
  clear op
  go_wp2
  go_loopw [8, 9] (fun v i wr => ∃ (k : Nat) (F : List ByteArray), k ≤ qp ∧ i = .int .i64 k ∧ (∃ B q d, v = .slice B q d ∧ q ≤ k ∧ Own stV 1 wr w2.heap.size 9 B q d F) ∧ Found (candsP s x k) F ∧ Below w2.heap.size w2 wr) (fun _ i _ => qp - (intOf i).toNat)
  case atStart => exact ⟨0, [], by omega, rfl, ⟨_, 0, 0, rfl, Nat.le_refl _, oe⟩, found_nil, ba⟩
  case round =>
    clear oe ba
    obtain ⟨k, F, hk, rfl, ⟨B, q, d, rfl, hq, ho⟩, hf, hbw⟩ := hrel
    replace c0 := cell_below hbw c0
    replace c1 := cell_below hbw c1
    replace c2 := cell_below hbw c2
    replace cs := cell_below hbw cs
    have HF := Lib.hid hf
    clear hf
    by_cases hlt : k < qp
    · obtain ⟨bp, off, a, rfl, hpl, cp⟩ := (rp.below hbw).in hlt
      obtain ⟨i, rfl, hin⟩ := place_in hpl
      have HPL := Lib.hid hpl
      clear hpl
      have hw : IntKind.i64.wrap ((i : Int) + (x.new.size : Int)) = ((i + x.new.size : Nat) : Int) := by rw [IntWalk.i64_in _ (by omega)]; simp
      obtain ⟨bb, hbb⟩ : ∃ bb, bb = s.extract 0 i ++ x.old ++ s.extract (i + x.new.size) s.size := ⟨_, rfl⟩
      have hbz : bb.size ≤ 2097152 := by rw [hbb]; simp only [ByteArray.size_append, ByteArray.size_extract]; omega
      have HB : Hid (bb = befB s x i) := hbb
      have HBB := Lib.hid hbb
      clear hbb
      go_wp2_with fail
      go_quiet (fail)
      have bq := below_drewN (Below.refl wr.heap.size wr) nq
      go_wp2_with fail
      rw [← HBB.out]
      generalize hw3 : wr.drewN nq = w4 at *
      clear hw3
      replace c0 := cell_below bq c0
      replace c1 := cell_below bq c1
      replace c2 := cell_below bq c2
      replace cs := cell_below bq cs
      replace ho := ho.below bq
      replace hbw := below_trans hbw bq
      clear bq
      have hcl : ∀ w', Calls Try.prog 25 #[.string bb, .agg #[.int .i64 k0, .string x.old, .string x.new]] w' fun e w'' => e = .returned (.tuple #[.string (lineS bb x), .bool (lineG bb x)]) ∧ Below w'.heap.size w' w'' := fun w' => by
        rw [← HK.out]
        exact l22Line_any bb x w' (by omega) (by omega) (by omega)
      refine (hcl _).mono ?_
      rintro e w5 ⟨rfl, b5⟩
      clear hcl
      replace ho := ho.below b5
      replace hbw := below_trans hbw b5
      clear b5 c0 c1 cs cp hw
      have hmb : bb.size ≤ maxLen := by unfold maxLen; omega
      have HG := Lib.hid (show lineG bb x = impG bb x by unfold lineG impG; rw [H3.out]; simp)
      cases g1 : lineG bb x
      · have E := Lib.hid (candsP_bad (x := x) HPL.out (by rw [← HB.out]; unfold good1; rw [← HG.out, g1]; rfl))
        go_wp2
        go_roundw
        case rel => exact ⟨k + 1, F, by omega, by go_num, ⟨B, q, d, rfl, by omega, ho⟩, by rw [E.out]; exact HF.out, hbw⟩
        case measure => simp [intOf]; omega
      have G1 : Hid (impG bb x = true) := by show _ = _; rw [← HG.out, g1]
      have HI := Lib.hid (show lineS bb x = impS bb x by
        have : oneB bb x.old = true := by have := G1.out; unfold impG at this; rw [Bool.and_eq_true] at this; exact this.1
        rw [lineS_yes H3.out this, impS_yes this])
      cases g3 : ((lineS bb x).toList == s.toList)
      · have E := Lib.hid (candsP_bad (x := x) HPL.out (by rw [← HB.out]; unfold good1; rw [← HI.out, g3]; simp))
        have g4 : ¬(lineS bb x).toList = s.toList := by simpa using g3
        go_wp2
        go_roundw
        case rel => exact ⟨k + 1, F, by omega, by go_num, ⟨B, q, d, rfl, by omega, ho⟩, by rw [E.out]; exact HF.out, hbw⟩
        case measure => simp [intOf]; omega
      have g4 : (lineS bb x).toList = s.toList := by simpa using g3
      have G3 := Lib.hid (show ((impS bb x).toList == s.toList) = true by rw [← HI.out, g3])
      clear g3
      go_wp2_with fail
      refine (l22Plain_any _ _ _ hmb).mono ?_
      rintro e w6 ⟨rfl, rfl⟩
      cases g2 : lineB bb
      · have E := Lib.hid (candsP_bad (x := x) HPL.out (by rw [← HB.out]; unfold good1; rw [g2]; simp))
        have g5 : (plainB bb && decide ((bb.size : Int) ≤ 40)) = false := g2
        clear g2
        go_wp2
        go_roundw
        case rel => exact ⟨k + 1, F, by omega, by go_num, ⟨B, q, d, rfl, by omega, ho⟩, by rw [E.out]; exact HF.out, hbw⟩
        case measure => simp [intOf]; omega
      have E := Lib.hid (candsP_yes (x := x) HPL.out (by rw [← HB.out]; unfold good1; rw [G1.out, g2, G3.out]; rfl))
      have g5 : (plainB bb && decide ((bb.size : Int) ≤ 40)) = true := g2
      rw [← HB.out] at E
      have HF2 := Lib.hid (found_S HF.out bb)
      have HQ := Lib.hid ho.len
      clear g2 g4
      rcases Nat.eq_zero_or_pos q with h0q | h0q
      · subst h0q
        have hF0 : F = [] := List.eq_nil_of_length_eq_zero HQ.out
        subst hF0
        go_wp2_with (at_builtin; refine wpList_push rfl _ _ _ rfl w2.heap.size 9 i0 (.string ByteArray.empty) 1 16 Try.underlying24 hi hz0 hz1 hz2 rfl (by omega) stV stV_len one_st B 0 d [] rfl ho bb _ rfl _ rfl (by first | rfl | simp) (by simp only [maxLen]; omega) (by omega) hbw.size ?_; intro B3 d3 w7 ho3 hg3)
        go_roundw
        case rel => exact ⟨k + 1, [bb], by omega, by go_num, ⟨B3, 0 + 1, d3, rfl, by omega, ho3⟩, by rw [E.out]; exact HF2.out, below_push hbw ho hg3 (Nat.le_refl _)⟩
        case measure => simp [intOf]; omega
      · obtain ⟨gf, rfl⟩ := ho.form h0q
        obtain ⟨y, hy⟩ : ∃ y, F[0]? = some y := ⟨_, List.getElem?_eq_getElem (by have := HQ.out; omega)⟩
        have qf := ho.cell stV_len (i := 0) (j := 0) hy rfl
        have HY := Lib.hid (show F.head? = some y by rw [List.head?_eq_getElem?, hy])
        have hq0 : ¬((q : Int) = 0) := by omega
        clear hy
        simp only [Nat.zero_mul, Nat.add_zero] at qf
        by_cases hyb : y = bb
        · have E2 := Lib.hid (show addS F bb = F by unfold addS; rw [HY.out, hyb, if_pos rfl])
          subst hyb
          go_wp2
          go_roundw
          case rel => exact ⟨k + 1, F, by omega, by go_num, ⟨some ⟨gf, 0, none⟩, q, d, rfl, by omega, ho⟩, by rw [E.out, ← E2.out]; exact HF2.out, hbw⟩
          case measure => simp [intOf]; omega
        · have E2 := Lib.hid (show addS F bb = F ++ [bb] by unfold addS; rw [HY.out, if_neg (by simpa using hyb)])
          have hyl : (y.toList == bb.toList) = false := by cases h : (y.toList == bb.toList); rfl; exact absurd (toList_inj h) hyb
          clear hyb
          go_wp2_with (at_builtin; refine wpList_push rfl _ _ _ rfl w2.heap.size 9 i0 (.string ByteArray.empty) 1 16 Try.underlying24 hi hz0 hz1 hz2 rfl (by omega) stV stV_len one_st (some ⟨gf, 0, none⟩) q d F rfl ho bb _ rfl _ rfl (by first | rfl | simp) (by simp only [maxLen]; omega) (by omega) hbw.size ?_; intro B3 d3 w7 ho3 hg3)
          go_roundw
          case rel => exact ⟨k + 1, F ++ [bb], by omega, by go_num, ⟨B3, q + 1, d3, rfl, by omega, ho3⟩, by rw [E.out, ← E2.out]; exact HF2.out, below_push hbw ho hg3 (Nat.le_refl _)⟩
          case measure => simp [intOf]; omega
    · obtain rfl : k = qp := by omega
      have HQ := Lib.hid ho.len
      have HFF : Hid (Found (candsAll s x) F) := by show Found _ _; rw [← candsP_all (k := k) (by rw [HP.out]; exact Nat.le_refl _)]; exact HF.out
      by_cases hq1 : q = 1
      · subst hq1
        obtain ⟨bb, hF, hon⟩ := found_one HFF.out HQ.out
        have E := Lib.hid (show undoO l x = some bb by rw [HO.out]; exact hon)
        subst hF
        clear hon
        have har := ha.below (below_trans t2 hbw)
        obtain ⟨gf, rfl⟩ := ho.form (by omega)
        have qf := ho.cell stV_len (i := 0) (j := 0) rfl rfl
        simp only [Nat.zero_mul, Nat.add_zero] at qf
        have hcl := fun w' (hr : Rd stV 1 w' (some ⟨b, o, none⟩) n c l) => l22With_any (some ⟨b, o, none⟩) n c l k0 bb w' hr (by omega) hkn
        go_wp2_with fail
        have HR := Lib.hid har
        have HT := Lib.hid (below_trans (below_trans t2 hbw) (below_drewN (Below.refl _ _) 1))
        clear ho har
        go_still_tail 6, (by kernel_rfl)
        change wpList _ _ _ _ _ wr.drew
        have har := HR.out.drew
        have t4 : Below w.heap.size w wr.drew := HT.out
        generalize hw4 : wr.drew = w4 at *
        clear hw4 c0 qf HT
        go_wp2_with fail
        refine (hcl _ har).mono ?_
        rintro e w7 ⟨⟨B7, d7, rfl, o7⟩, b7⟩
        go_wp2
        go_ret2
        exact ⟨⟨_, _, _, ret_sl_bool (undoG_yes E.out).symm, by rw [undoL_yes E.out, HK.out, Int.toNat_natCast]; exact o7.base_le t4.size⟩, below_trans t4 b7⟩
      · have E := Lib.hid (show undoO l x = none by rw [HO.out]; exact found_no HFF.out (by rw [HQ.out]; exact hq1))
        have hq2 : ¬((q : Int) = 1) := by omega
        clear hq1
        go_wp2
        go_ret2
        exact ⟨⟨_, _, _, ret_sl_bool (undoG_no E.out).symm, by rw [undoL_no E.out]; exact (Own.empty stV 1 _ 9).base_le (Nat.le_trans t2.size hbw.size)⟩, below_trans (below_trans t2 hbw) (below_alloc _)⟩

end Go.Proofs.Ytmahfkimeclcbaa
