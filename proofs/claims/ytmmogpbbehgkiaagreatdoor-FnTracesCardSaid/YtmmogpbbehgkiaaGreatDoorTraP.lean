/-
  YtmmogpbbehgkiaaGreatDoorTraP: ParseTrace on both sides, by contracts. (Printed by wip/gen/trap.py.)
-/
import Derived.Test.YtmmogpbbehgkiaaGreatDoorTraT
import Derived.Test.YtmmogpbbehgkiaaGreatDoorRdn
import Derived.Test.YtmmogpbbehgkiaaGreatDoorSplit
import Derived.BigQuiet
namespace Go.Proofs.YtmmogpbbehgkiaaGreatDoor
open Go Go.RowKit Go.Sort
set_option linter.unusedVariables false
set_option linter.unusedSimpArgs false

theorem one_tsP (x : TS) : ∀ u ∈ tsV x, u.oneCell' = true := by intro u hu; simp [tsV] at hu; rcases hu with rfl | rfl <;> rfl
theorem Own.ne_block {α β : Type} {enc : α → List Value} {enc' : β → List Value} {sz sz' : Nat} {w : World} {base base' : Nat} {e e' : TypeId} {A A' : Option Addr} {n c n' c' : Nat} {l : List α} {l' : List β} (h : Own enc sz w base e A n c l) (h' : Own enc' sz' w base' e' A' n' c' l') (he : e ≠ e') : blockOf A = none ∨ blockOf A ≠ blockOf A' := by
  rcases h.row.2 with ⟨h0, _⟩ | ⟨g, cap, cur, hv, hb, hg, _⟩
  · injection h0 with h0; subst h0; exact .inl rfl
  · injection hv with hv; subst hv
    right
    intro hE
    rcases h'.row.2 with ⟨h0, _⟩ | ⟨g', cap', cur', hv', hb', hg', _⟩
    · injection h0 with h0; subst h0; simp [blockOf] at hE
    · injection hv' with hv'; subst hv'
      have e1 : g = g' := by simpa [blockOf] using hE
      subst e1
      rw [hg] at hg'
      injection hg' with hg'
      injection hg' with _ h2
      exact he h2
theorem ret_slb {A A' : Option Addr} {n n' c c' : Nat} {b b' : Bool} (h1 : Value.slice A n c = .slice A' n' c') (h2 : b = b') : Ending.returned (.tuple #[.slice A n c, .bool b]) = .returned (.tuple #[.slice A' n' c', .bool b']) := by rw [h1, h2]

/-! ### the plain law -/
theorem size_zeroP {p : ByteArray} (h : p.size = 0) : p = ByteArray.empty := by
  cases p with
  | mk d => cases d with | mk l => cases l with
    | nil => rfl
    | cons a t => cases h
theorem toList_neP {p : ByteArray} (h : ¬ p.size = 0) : p.toList.isEmpty = false := by
  cases he : p.toList.isEmpty
  · rfl
  · exact absurd (by rw [(toList_nil_iff_emptyBytes p).1 (List.isEmpty_iff.1 he)]; rfl) h
theorem joinL_cons (x y : List UInt8) (l : List (List UInt8)) (sep : List UInt8) : Lib.join (x :: y :: l) sep = x ++ sep ++ Lib.join (y :: l) sep := by
  rw [Lib.join_cons, Lib.join_cons]
  simp [Lib.joinTail]
theorem joinS_cons (w : ByteArray) {r : List ByteArray} (h : r ≠ []) (sep : ByteArray) : joinS (w :: r) sep = w ++ sep ++ joinS r sep := by
  obtain ⟨y, l, rfl⟩ := List.exists_cons_of_ne_nil h
  unfold joinS
  apply ByteArray.ext
  rw [List.map_cons, List.map_cons, joinL_cons]
  simp
theorem joinL_cut (b : UInt8) : ∀ (l cur : List UInt8), Lib.join (cutL b cur l) [b] = cur ++ l
  | [], cur => by rw [cutL, Lib.join_one]; simp
  | x :: r, cur => by
    unfold cutL
    split
    · rename_i e
      obtain ⟨y, t, ht⟩ := List.exists_cons_of_ne_nil (cutL_ne b r [])
      have := joinL_cut b r []
      rw [ht] at this ⊢
      rw [joinL_cons, this, e]
      simp
    · rw [joinL_cut b r (cur ++ [x])]; simp
theorem join_cut (s : ByteArray) : joinS (cutS s 32) sp = s := by
  unfold joinS cutS
  have e : ((cutL 32 [] s.data.toList).map mkB).map (fun x : ByteArray => x.data.toList) = cutL 32 [] s.data.toList := by
    rw [List.map_map]
    exact (List.map_congr_left (fun x _ => data_mkB x)).trans (List.map_id _)
  rw [e]
  show (⟨(Lib.join (cutL 32 [] s.data.toList) [32]).toArray⟩ : ByteArray) = s
  rw [joinL_cut]
  exact mkB_data s
theorem cut_join {ws : List ByteArray} (h : ws ≠ []) (hb : ∀ w ∈ ws, (32 : UInt8) ∉ w.data.toList) : cutS (joinS ws sp) 32 = ws := by
  induction ws with
  | nil => exact absurd rfl h
  | cons w r ih =>
    by_cases hr : r = []
    · subst hr
      rw [joinS_one, cutS_end (hb w (by simp))]
    · rw [joinS_cons w hr]
      show cutS (w ++ ⟨#[32]⟩ ++ joinS r sp) 32 = _
      rw [cutS_app (hb w (by simp)), ih hr (fun x hx => hb x (by simp [hx]))]
theorem seven {k : Int} (h1 : 1 ≤ k) (h2 : k ≤ 7) : k = 1 ∨ k = 2 ∨ k = 3 ∨ k = 4 ∨ k = 5 ∨ k = 6 ∨ k = 7 := by omega
theorem tsOK_iff {x : TS} : tsOK x = true ↔ (1 ≤ x.m ∧ x.m ≤ 20) ∧ 1 ≤ x.k ∧ x.k ≤ 7 := by unfold tsOK; rw [Bool.and_eq_true, inB_iff, inB_iff]
theorem wrd_data (x : TS) : (wrd x).data.toList = (numS x.m.toNat).data.toList ++ [letter x.k] := by unfold wrd; simp
theorem wrd_not {x : TS} (h : tsOK x = true) : (32 : UInt8) ∉ (wrd x).data.toList := by
  obtain ⟨_, h3, h4⟩ := tsOK_iff.1 h
  rw [wrd_data, List.mem_append, not_or]
  refine ⟨numS_not (by decide), ?_⟩
  rcases seven h3 h4 with e | e | e | e | e | e | e <;> rw [e] <;> decide
theorem num_20 {n : Nat} (h : n ≤ 20) : (numS n).size ≤ 2 := by
  by_cases h10 : n < 10
  · rw [numS_small h10]; show 1 ≤ 2; omega
  · rw [numS_big h10, numS_small (by omega)]; show 2 ≤ 2; omega
theorem wrd_sz (x : TS) : (wrd x).size = (numS x.m.toNat).size + 1 := by unfold wrd; rw [ByteArray.size_append]; rfl
theorem txt_cut {l : List TS} (hg : l.all tsOK = true) (hn : l ≠ []) : cutS (txt l) 32 = l.map wrd := by
  unfold txt
  exact cut_join (by simpa using hn) (fun w hw => by
    obtain ⟨x, hx, rfl⟩ := List.mem_map.1 hw
    exact wrd_not (List.all_eq_true.1 hg x hx))
theorem txt_four {l : List TS} (hg : l.all tsOK = true) : ∀ k, (txt (l.take k)).size ≤ 4 * k := by
  intro k
  induction k with
  | zero => exact Nat.le_refl _
  | succ k ih =>
    by_cases hk : k < l.length
    · have hs : l[k]? = some l[k] := List.getElem?_eq_getElem hk
      have hok := List.all_eq_true.1 hg _ (List.getElem_mem hk)
      obtain ⟨⟨_, h2⟩, _⟩ := tsOK_iff.1 hok
      have hw := wrd_sz l[k]
      have h20 := num_20 (n := (l[k]).m.toNat) (by omega)
      rw [txt_step hs, ByteArray.size_append]
      split
      · show 0 + _ ≤ _; omega
      · rw [ByteArray.size_append]; show _ + 1 + _ ≤ _; omega
    · rw [List.take_of_length_le (by omega)] at ih ⊢
      omega
theorem good_iff {l : List TS} : goodL l = true ↔ l.all tsOK = true ∧ l.length ≤ 24 := by unfold goodL; rw [Bool.and_eq_true, decide_eq_true_eq]
theorem good_text {l : List TS} (h : goodL l = true) : (txt l).size ≤ 96 := by
  obtain ⟨h1, h2⟩ := good_iff.1 h
  have := txt_four h1 l.length
  rw [List.take_length] at this
  omega
/-- The last byte of a text. -/
def lastB (w : ByteArray) : UInt8 := if h : 0 < w.size then w[w.size - 1] else 0
theorem lastB_eq {w : ByteArray} (h : 0 < w.size) : lastB w = w[w.size - 1] := dif_pos h
def letB (k : Nat) : UInt8 := ([109, 115, 100, 97, 121, 110, 119] : List UInt8).getD k 0
/-- The kind that the reference has found behind k letters. -/
def kU (b : UInt8) : Nat → Int
  | 0 => 0
  | k + 1 => if letB k = b then (k : Int) + 1 else kU b k
theorem kU_bd (b : UInt8) : ∀ k, 0 ≤ kU b k ∧ kU b k ≤ k
  | 0 => ⟨Int.le_refl _, Int.le_refl _⟩
  | k + 1 => by
    have := kU_bd b k
    unfold kU
    split <;> omega
theorem kU_hit (b : UInt8) : ∀ k, 1 ≤ kU b k → letB ((kU b k).toNat - 1) = b
  | 0, h => by simp [kU] at h
  | k + 1, h => by
    unfold kU at h ⊢
    split
    · rename_i e
      rw [show ((k : Int) + 1).toNat - 1 = k from by omega]; exact e
    · rename_i e
      rw [if_neg e] at h
      exact kU_hit b k h
theorem letter_let {k : Int} (h1 : 1 ≤ k) (h2 : k ≤ 7) : letter k = letB (k.toNat - 1) := by
  rcases seven h1 h2 with e | e | e | e | e | e | e <;> rw [e] <;> rfl
theorem kU_letter {k : Int} (h1 : 1 ≤ k) (h2 : k ≤ 7) : kU (letter k) 7 = k := by
  rcases seven h1 h2 with e | e | e | e | e | e | e <;> rw [e] <;> decide
def kI (b : UInt8) : Int := Lib.indexByte [32, 109, 115, 100, 97, 121, 110, 119] b
theorem kI_letter {k : Int} (h1 : 1 ≤ k) (h2 : k ≤ 7) : kI (letter k) = k := by
  rcases seven h1 h2 with e | e | e | e | e | e | e <;> rw [e] <;> decide
def hdB (w : ByteArray) : ByteArray := w.extract 0 (w.size - 1)
def candW (w : ByteArray) : TS := ⟨(rdP (hdB w)).1, kU (lastB w) 7⟩
def candI (w : ByteArray) : TS := ⟨(prI (hdB w)).1, kI (lastB w)⟩
theorem hd_wrd (x : TS) : hdB (wrd x) = numS x.m.toNat := by
  unfold hdB
  rw [Lib.extract_eq, wrd_sz]
  show (⟨((wrd x).data.toList.drop 0 |>.take _).toArray⟩ : ByteArray) = _
  rw [wrd_data]
  have e : (numS x.m.toNat).size = (numS x.m.toNat).data.toList.length := rfl
  rw [Nat.add_sub_cancel, Nat.sub_zero, e]
  simp
theorem last_wrd (x : TS) : lastB (wrd x) = letter x.k := by
  have hz : 0 < (wrd x).size := by rw [wrd_sz]; omega
  rw [lastB_eq hz]
  have h := byte_get (p := wrd x) (k := (wrd x).size - 1) (by omega)
  generalize (wrd x)[(wrd x).size - 1] = v at h ⊢
  rw [wrd_data, wrd_sz, Nat.add_sub_cancel] at h
  have e : (numS x.m.toNat).size = (numS x.m.toNat).data.toList.length := rfl
  rw [e, List.getElem?_append_right (Nat.le_refl _), Nat.sub_self] at h
  exact (Option.some.inj h).symm
theorem rdP_numP {n : Nat} (h : n ≤ 999999) : rdP (numS n) = ((n : Int), true) := by
  obtain ⟨h1, h2⟩ := rdP_LR (numS n) n h rfl
  exact Prod.ext h1 h2
theorem prI_numP {n : Nat} (h : n ≤ 999999) : prI (numS n) = ((n : Int), true) := by
  obtain ⟨h1, h2⟩ := prI_LR (numS n) n h rfl
  exact Prod.ext h1 h2
theorem candW_wrd {x : TS} (h : tsOK x = true) : candW (wrd x) = x ∧ (rdP (hdB (wrd x))).2 = true ∧ 2 ≤ (wrd x).size := by
  obtain ⟨⟨h1, h2⟩, h3, h4⟩ := tsOK_iff.1 h
  have hp := numS_pos x.m.toNat
  have hz := wrd_sz x
  unfold candW
  rw [hd_wrd, last_wrd, rdP_numP (by omega), kU_letter h3 h4]
  refine ⟨?_, rfl, by omega⟩
  show (⟨((x.m.toNat : Nat) : Int), x.k⟩ : TS) = x
  rw [Int.toNat_of_nonneg (by omega)]
theorem candI_wrd {x : TS} (h : tsOK x = true) : candI (wrd x) = x ∧ (prI (hdB (wrd x))).2 = true ∧ 2 ≤ (wrd x).size := by
  obtain ⟨⟨h1, h2⟩, h3, h4⟩ := tsOK_iff.1 h
  have hp := numS_pos x.m.toNat
  have hz := wrd_sz x
  unfold candI
  rw [hd_wrd, last_wrd, prI_numP (by omega), kI_letter h3 h4]
  refine ⟨?_, rfl, by omega⟩
  show (⟨((x.m.toNat : Nat) : Int), x.k⟩ : TS) = x
  rw [Int.toNat_of_nonneg (by omega)]
theorem rdP_true {s : ByteArray} (h : (rdP s).2 = true) : numZ (rdP s).1 = s := by
  unfold rdP at h ⊢
  split
  · rename_i hc
    rw [if_pos hc] at h
    split
    · rename_i hd; rw [hd] at h; cases h
    · rename_i a hd
      rw [hd] at h
      dsimp only at h ⊢
      split
      · assumption
      · rename_i hn; rw [if_neg hn] at h; cases h
  · rename_i hc; rw [if_neg hc] at h; cases h
def wOK (w : ByteArray) : Prop := 2 ≤ w.size ∧ (rdP (hdB w)).2 = true
theorem back_wrd {w : ByteArray} (hw : wOK w) (hok : tsOK (candW w) = true) : wrd (candW w) = w := by
  obtain ⟨h2, hr⟩ := hw
  obtain ⟨⟨h3, _⟩, h5, h6⟩ := tsOK_iff.1 hok
  have hn := rdP_true hr
  have hm : (candW w).m = (rdP (hdB w)).1 := rfl
  have hkd : (candW w).k = kU (lastB w) 7 := rfl
  rw [hm] at h3
  rw [hkd] at h5 h6
  have hk := kU_hit (lastB w) 7 h5
  have e1 : numS (candW w).m.toNat = hdB w := by
    rw [hm]
    generalize (rdP (hdB w)).1 = v at *
    unfold numZ at hn
    rw [if_neg (by omega)] at hn
    exact hn
  have e2 : letter (candW w).k = lastB w := by
    rw [hkd]
    generalize kU (lastB w) 7 = v at *
    rw [letter_let h5 h6]; exact hk
  unfold wrd
  rw [e1, e2, lastB_eq (by omega)]
  have hl : w.size - 1 < w.data.toList.length := by rw [Array.length_toList]; show _ < w.size; omega
  apply ByteArray.ext
  rw [← Array.toList_inj]
  have e3 : (hdB w).data.toList = w.data.toList.take (w.size - 1) := by unfold hdB; exact Lib.extract_from_zero w _
  have e4 : (hdB w ++ ⟨#[w[w.size - 1]]⟩).data.toList = (hdB w).data.toList ++ [w[w.size - 1]] := by simp
  rw [e4, e3]
  have e5 : w.data.toList[w.size - 1]? = some w[w.size - 1] := byte_get (by omega)
  have e6 : w.data.toList.take (w.size - 1 + 1) = w.data.toList.take (w.size - 1) ++ [w[w.size - 1]] := by rw [List.take_add_one, e5]; rfl
  rw [← e6]
  exact List.take_of_length_le (by rw [Array.length_toList]; show w.size ≤ _; omega)

/-- What both ParseTrace give. -/
def parT (s : ByteArray) : List TS × Bool :=
  if s.size = 0 then ([], true) else if goodL ((cutS s 32).map candW) = true ∧ txt ((cutS s 32).map candW) = s then ((cutS s 32).map candW, true) else ([], false)
theorem txt_pos {l : List TS} (h : l ≠ []) : (txt l).size ≠ 0 := by
  obtain ⟨x, r, rfl⟩ := List.exists_cons_of_ne_nil h
  have hz := wrd_sz x
  unfold txt
  rw [List.map_cons]
  by_cases hr : r.map wrd = []
  · rw [hr, joinS_one]; omega
  · rw [joinS_cons _ hr, ByteArray.size_append, ByteArray.size_append]; omega
theorem words_of {s : ByteArray} (h0 : ¬ s.size = 0) {l : List TS} (hg : goodL l = true) (e : txt l = s) : cutS s 32 = l.map wrd := by
  subst e
  exact txt_cut (good_iff.1 hg).1 (fun hn => h0 (by subst hn; rfl))
theorem map_candW {l : List TS} (hg : l.all tsOK = true) : (l.map wrd).map candW = l := by
  rw [List.map_map]
  exact (List.map_congr_left (fun x hx => (candW_wrd (List.all_eq_true.1 hg x hx)).1)).trans (List.map_id _)
theorem map_candI {l : List TS} (hg : l.all tsOK = true) : (l.map wrd).map candI = l := by
  rw [List.map_map]
  exact (List.map_congr_left (fun x hx => (candI_wrd (List.all_eq_true.1 hg x hx)).1)).trans (List.map_id _)
theorem parT_hit {s : ByteArray} {l : List TS} (hg : goodL l = true) (e : txt l = s) : parT s = (l, true) := by
  by_cases hn : l = []
  · subst hn
    have : s.size = 0 := by rw [← e]; rfl
    unfold parT
    rw [if_pos this]
  · have h0 : ¬ s.size = 0 := by rw [← e]; exact txt_pos hn
    have hw := words_of h0 hg e
    unfold parT
    rw [if_neg h0, hw, map_candW (good_iff.1 hg).1, if_pos ⟨hg, e⟩]
theorem parT_none {s : ByteArray} (h : ∀ l, goodL l = true → txt l ≠ s) : parT s = ([], false) := by
  unfold parT
  split
  · rename_i h0
    exact absurd (size_zeroP h0).symm (h [] rfl)
  · exact if_neg (fun e => h _ e.1 e.2)
theorem parT_len (s : ByteArray) : (parT s).1.length ≤ 24 := by
  unfold parT
  split
  · exact Nat.zero_le _
  · split
    · rename_i h; exact (good_iff.1 h.1).2
    · exact Nat.zero_le _
theorem parT_yes {s : ByteArray} (h : (parT s).2 = true) : goodL (parT s).1 = true ∧ txt (parT s).1 = s := by
  unfold parT at h ⊢
  split
  · rename_i h0; exact ⟨rfl, (size_zeroP h0).symm⟩
  · rename_i h0
    rw [if_neg h0] at h
    split
    · assumption
    · rename_i hn; rw [if_neg hn] at h; cases h
theorem wordsG {s : ByteArray} (h0 : ¬ s.size = 0) {k : Nat} {x : ByteArray} (hx : (cutS s 32)[k]? = some x) {l : List TS} (hg : goodL l = true) (e : txt l = s) : ∃ y, tsOK y = true ∧ x = wrd y := by
  rw [words_of h0 hg e, List.getElem?_map] at hx
  cases hy : l[k]? with
  | none => rw [hy] at hx; cases hx
  | some y => rw [hy] at hx; exact ⟨y, List.all_eq_true.1 (good_iff.1 hg).1 y (List.mem_of_getElem? hy), (Option.some.inj hx).symm⟩
theorem all_back {ws : List ByteArray} (hw : ∀ j x, j < ws.length → ws[j]? = some x → wOK x) (hg : (ws.map candW).all tsOK = true) : (ws.map candW).map wrd = ws := by
  rw [List.map_map]
  refine (List.map_congr_left (fun x hx => ?_)).trans (List.map_id _)
  obtain ⟨j, hj⟩ := List.mem_iff_getElem?.1 hx
  exact back_wrd (hw j x (List.getElem?_eq_some_iff.1 hj).1 hj) (List.all_eq_true.1 hg _ (List.mem_map_of_mem hx))
theorem hit_of {s : ByteArray} (hw : ∀ j x, j < (cutS s 32).length → (cutS s 32)[j]? = some x → wOK x) (hg : goodL ((cutS s 32).map candW) = true) : txt ((cutS s 32).map candW) = s := by
  unfold txt
  rw [all_back hw (good_iff.1 hg).1, join_cut]

set_option maxRecDepth 100000 in
set_option maxHeartbeats 1000000 in
theorem specParseTrace_any (s : ByteArray) (w : World) (hs : s.size ≤ 1048576) : Calls Tryz.prog 21 #[.string s] w fun e w' => (∃ B q d, e = .returned (.tuple #[.slice B q d, .bool (parT s).2]) ∧ Own tsV 2 w' w.heap.size 31 B q d (parT s).1) ∧ Below w.heap.size w w' := by
  obtain ⟨i0, hi, hz0, hz1, hz2⟩ := info_parts Tryz.infots
  have o0 := Own.empty tsV 2 w 31
  have b0 := below_alloc (w := w) (.cells #[] 31)
  by_cases h0 : s.size = 0
  · have e0 := size_zeroP h0
    subst e0
    have E : Hid (parT ByteArray.empty = ([], true)) := parT_hit (l := []) rfl rfl
    go_enter Tryz.func21, Tryz.ntmps21
    go_wp2
    go_ret2
    exact ⟨⟨_, _, _, by rw [E.out]; rfl, by rw [E.out]; exact o0⟩, b0⟩
  have hne := toList_neP h0
  have H0 := Lib.hid h0
  clear h0
  go_enter Tryz.func21, Tryz.ntmps21
  go_wp2_with fail
  refine (l1Split_any s 32 _ (by omega)).mono ?_
  rintro e w1 ⟨⟨B, q, d, rfl, hw⟩, b1⟩
  have t1 := below_trans b0 b1
  replace o0 := o0.below b1
  have hql := hw.len
  have hq := cutS_len s 32
  replace hw := hw.base_le (show w.heap.size ≤ _ by simp)
  have HQ := Lib.hid hql
  have hq2 : q ≤ 1048577 := by omega
  clear hql hq
  by_cases h100 : 100 < s.size
  · have H1 := Lib.hid h100
    clear h100
    have h100' : (100 : Int) < s.size := by have := H1.out; omega
    have E := Lib.hid (parT_none (s := s) (fun l hg e => by have h9 := good_text hg; rw [e] at h9; have := H1.out; omega))
    go_wp2
    go_ret2
    exact ⟨⟨_, _, _, by rw [E.out]; rfl, by rw [E.out]; exact o0⟩, t1⟩
  have h100' : s.size ≤ 100 := by omega
  clear h100
  go_wp2
  go_loopw [4, 6] (fun v i wr => ∃ k, k ≤ q ∧ i = .int .i64 k ∧ (∃ B2 d2, v = .slice B2 k d2 ∧ Own tsV 2 wr w.heap.size 31 B2 k d2 (((cutS s 32).take k).map candW)) ∧ Own stV 1 wr w.heap.size 9 B q d (cutS s 32) ∧ (∀ j x, j < k → (cutS s 32)[j]? = some x → wOK x) ∧ Below w.heap.size w wr) (fun _ i _ => q - (intOf i).toNat)
  case atStart => exact ⟨0, Nat.zero_le _, rfl, ⟨_, 0, rfl, o0⟩, hw, fun j x hj => absurd hj (by omega), t1⟩
  case round =>
    clear o0 hw
    obtain ⟨k, hk, rfl, ⟨B2, d2, rfl, ho⟩, hw, hup, tw⟩ := hrel
    have HU := Lib.hid hup
    clear hup
    by_cases hlt : k < q
    · obtain ⟨b1', o1, x, rfl, hx, c0⟩ := (hw.rd stV_len).st hlt
      have HX := Lib.hid hx
      have hxz := cutS_size (List.mem_of_getElem? hx)
      clear hx
      by_cases h2 : 2 ≤ x.size
      rotate_left
      · have H2 := Lib.hid h2
        have h2' : (x.size : Int) < 2 := by omega
        clear h2 ho
        have E := Lib.hid (parT_none (s := s) (fun l hg e => by obtain ⟨y, hy, e9⟩ := wordsG H0.out HX.out hg e; have h9 := (candW_wrd hy).2.2; rw [← e9] at h9; exact H2.out h9))
        go_wp2
        go_ret2
        exact ⟨⟨_, _, _, by rw [E.out]; rfl, by rw [E.out]; exact (Own.empty _ _ _ _).base_le (by have := (tw).size; omega)⟩, below_trans tw (below_alloc _)⟩
      have hsub : IntKind.i64.wrap ((x.size : Int) - 1) = ((x.size - 1 : Nat) : Int) := by rw [IntWalk.i64_in _ (by omega)]; omega
      have CR : Hid (∀ w, Calls Tryz.prog 44 #[.string (x.extract 0 (x.size - 1))] w fun e w' => e = .returned (.tuple #[.int .i64 (rdP (hdB x)).1, .bool (rdP (hdB x)).2]) ∧ Below w.heap.size w w') := fun w => l1Read_any _ w (by rw [ByteArray.size_extract]; omega)
      have HG : Hid (∀ l, goodL l = true → txt l = s → (rdP (hdB x)).2 = true) := fun l hg e => by
        obtain ⟨y, hy, e9⟩ := wordsG H0.out HX.out hg e
        rw [e9]; exact (candW_wrd hy).2.1
      have HC : Hid (candW x = ⟨(rdP (hdB x)).1, kU (lastB x) 7⟩) := rfl
      have HK : Hid ((rdP (hdB x)).2 = true → wOK x) := fun h => ⟨h2, h⟩
      generalize (rdP (hdB x)).1 = N at *
      generalize (rdP (hdB x)).2 = G at *
      go_wp2_with fail
      refine (CR.out _).mono ?_
      rintro e w2 ⟨rfl, b2⟩
      have t2 := below_trans tw b2
      have hlb := lastB_eq (w := x) (by omega)
      obtain ⟨g, hg⟩ : ∃ g, g = w2.heap.size := ⟨_, rfl⟩
      have brr : Own tsV 2 (w2.alloc (.cells #[.int .i64 N, .int .i64 0] 31)) w2.heap.size 31 (some ⟨g, 0, none⟩) 1 1 [⟨N, 0⟩] := ⟨rfl, rfl, .inr ⟨_, _, _, rfl, by omega, heap_new hg, by omega, by simp [maxLen], rfl, rfl⟩⟩
      have b3 := below_alloc (w := w2) (.cells #[.int .i64 N, .int .i64 0] 31)
      have ho3 := (ho.below b2).below b3
      have hob := ho.below b2
      have hw3' := (hw.below b2).below b3
      have hwb := hw.below b2
      have HGG := Lib.hid hg
      have hgw : w.heap.size ≤ g := by have := t2.size; omega
      replace c0 := cell_below b2 c0
      have hcb0 : b1' < w2.heap.size := lt_of_cell c0
      have hcb : b1' < g := by omega
      replace c0 := cell_below b3 c0
      have t3 := below_trans t2 b3
      go_wp2
      rw [← hg]
      generalize hw3 : w2.alloc (.cells #[.int .i64 N, .int .i64 0] 31) = w3 at *
      clear hw3 CR hg hcb0
      obtain ⟨wo, hwo⟩ : ∃ wo : World, wo = wr := ⟨_, rfl⟩
      subst hwo
      go_loopw [11] (fun i wi => ∃ kk : Nat, kk ≤ 7 ∧ i = .int .i64 kk ∧ Own tsV 2 wi w2.heap.size 31 (some ⟨g, 0, none⟩) 1 1 [⟨N, kU (lastB x) kk⟩] ∧ w3.grownBy wi (some g)) (fun i _ => 7 - (intOf i).toNat)
      case atStart => exact ⟨0, by omega, rfl, brr, World.grownBy.refl _ _⟩
      case round =>
        clear brr
        obtain ⟨kk, hkk, rfl, br, hgi⟩ := hrel
        have ci := World.grownBy.cell hgi c0 (fun e => by injection e with e; simp only at e; omega)
        have x0 := br.cell tsV_len (i := 0) (j := 0) rfl rfl
        have x1 := br.cell tsV_len (i := 0) (j := 1) rfl rfl
        have xf := br.frozen 1
        simp only [Nat.zero_mul, Nat.zero_add] at x0 x1
        by_cases h7 : kk < 7
        · have hstep : letB kk = lastB x → kU (lastB x) (kk + 1) = (kk : Int) + 1 := fun e => by
            show (if letB kk = lastB x then (kk : Int) + 1 else kU (lastB x) kk) = _
            rw [if_pos e]
          have hstay : ¬ letB kk = lastB x → kU (lastB x) (kk + 1) = kU (lastB x) kk := fun e => by
            show (if letB kk = lastB x then (kk : Int) + 1 else kU (lastB x) kk) = _
            rw [if_neg e]
          have ix : x.size - 1 < x.size := by omega
          have HLB := Lib.hid hlb
          have HSTEP := Lib.hid hstep
          have HSTAY := Lib.hid hstay
          clear hstep hstay hlb
          have hkc : kk = 0 ∨ kk = 1 ∨ kk = 2 ∨ kk = 3 ∨ kk = 4 ∨ kk = 5 ∨ kk = 6 := by omega
          rcases hkc with rfl | rfl | rfl | rfl | rfl | rfl | rfl
          · by_cases hb : letB 0 = lastB x
            · have E := Lib.hid (HSTEP.out hb)
              have ht : ((((⟨#[109, 115, 100, 97, 121, 110, 119]⟩ : ByteArray)[0]'(by decide)).toNat : Int) == (x[x.size - 1].toNat : Int)) = true := by rw [← HLB.out, ← hb]; rfl
              clear hb
              go_wp2_with fail
              go_quiet (fail)
              have brq := br.below (below_drewN (Below.refl wr.heap.size wr) nq)
              have HST := Lib.hid (brq.store tsV_len (i := 0) (j := 1) rfl (by omega) ⟨N, ((0 : Nat) : Int) + 1⟩ (.int .i64 (((0 : Nat) : Int) + 1)) rfl)
              go_wp2
              go_roundw
              case rel =>
                have hst := HST.out
                simp only [Nat.zero_mul, Nat.zero_add] at hst
                exact ⟨0 + 1, by omega, by go_num, by rw [E.out]; exact hst.1, grown_trans hgi (grown_trans (grown_of_below (below_drewN (Below.refl wr.heap.size wr) nq) _) hst.2)⟩
              case measure => simp [intOf]
            · have E := Lib.hid (HSTAY.out hb)
              have ht : ((((⟨#[109, 115, 100, 97, 121, 110, 119]⟩ : ByteArray)[0]'(by decide)).toNat : Int) == (x[x.size - 1].toNat : Int)) = false := by
                rw [beq_eq_false_iff_ne, ← HLB.out]
                intro e
                have e' : ((109 : Nat) : Int) = ((lastB x).toNat : Int) := e
                exact hb (UInt8.toNat_inj.1 (by show 109 = _; omega))
              clear hb
              go_wp2_with fail
              go_quiet (fail)
              have brq := br.below (below_drewN (Below.refl wr.heap.size wr) nq)
              go_wp2
              go_roundw
              case rel => exact ⟨0 + 1, by omega, by go_num, by rw [E.out]; exact brq, grown_trans hgi (grown_of_below (below_drewN (Below.refl wr.heap.size wr) nq) _)⟩
              case measure => simp [intOf]
          · by_cases hb : letB 1 = lastB x
            · have E := Lib.hid (HSTEP.out hb)
              have ht : ((((⟨#[109, 115, 100, 97, 121, 110, 119]⟩ : ByteArray)[1]'(by decide)).toNat : Int) == (x[x.size - 1].toNat : Int)) = true := by rw [← HLB.out, ← hb]; rfl
              clear hb
              go_wp2_with fail
              go_quiet (fail)
              have brq := br.below (below_drewN (Below.refl wr.heap.size wr) nq)
              have HST := Lib.hid (brq.store tsV_len (i := 0) (j := 1) rfl (by omega) ⟨N, ((1 : Nat) : Int) + 1⟩ (.int .i64 (((1 : Nat) : Int) + 1)) rfl)
              go_wp2
              go_roundw
              case rel =>
                have hst := HST.out
                simp only [Nat.zero_mul, Nat.zero_add] at hst
                exact ⟨1 + 1, by omega, by go_num, by rw [E.out]; exact hst.1, grown_trans hgi (grown_trans (grown_of_below (below_drewN (Below.refl wr.heap.size wr) nq) _) hst.2)⟩
              case measure => simp [intOf]
            · have E := Lib.hid (HSTAY.out hb)
              have ht : ((((⟨#[109, 115, 100, 97, 121, 110, 119]⟩ : ByteArray)[1]'(by decide)).toNat : Int) == (x[x.size - 1].toNat : Int)) = false := by
                rw [beq_eq_false_iff_ne, ← HLB.out]
                intro e
                have e' : ((115 : Nat) : Int) = ((lastB x).toNat : Int) := e
                exact hb (UInt8.toNat_inj.1 (by show 115 = _; omega))
              clear hb
              go_wp2_with fail
              go_quiet (fail)
              have brq := br.below (below_drewN (Below.refl wr.heap.size wr) nq)
              go_wp2
              go_roundw
              case rel => exact ⟨1 + 1, by omega, by go_num, by rw [E.out]; exact brq, grown_trans hgi (grown_of_below (below_drewN (Below.refl wr.heap.size wr) nq) _)⟩
              case measure => simp [intOf]
          · by_cases hb : letB 2 = lastB x
            · have E := Lib.hid (HSTEP.out hb)
              have ht : ((((⟨#[109, 115, 100, 97, 121, 110, 119]⟩ : ByteArray)[2]'(by decide)).toNat : Int) == (x[x.size - 1].toNat : Int)) = true := by rw [← HLB.out, ← hb]; rfl
              clear hb
              go_wp2_with fail
              go_quiet (fail)
              have brq := br.below (below_drewN (Below.refl wr.heap.size wr) nq)
              have HST := Lib.hid (brq.store tsV_len (i := 0) (j := 1) rfl (by omega) ⟨N, ((2 : Nat) : Int) + 1⟩ (.int .i64 (((2 : Nat) : Int) + 1)) rfl)
              go_wp2
              go_roundw
              case rel =>
                have hst := HST.out
                simp only [Nat.zero_mul, Nat.zero_add] at hst
                exact ⟨2 + 1, by omega, by go_num, by rw [E.out]; exact hst.1, grown_trans hgi (grown_trans (grown_of_below (below_drewN (Below.refl wr.heap.size wr) nq) _) hst.2)⟩
              case measure => simp [intOf]
            · have E := Lib.hid (HSTAY.out hb)
              have ht : ((((⟨#[109, 115, 100, 97, 121, 110, 119]⟩ : ByteArray)[2]'(by decide)).toNat : Int) == (x[x.size - 1].toNat : Int)) = false := by
                rw [beq_eq_false_iff_ne, ← HLB.out]
                intro e
                have e' : ((100 : Nat) : Int) = ((lastB x).toNat : Int) := e
                exact hb (UInt8.toNat_inj.1 (by show 100 = _; omega))
              clear hb
              go_wp2_with fail
              go_quiet (fail)
              have brq := br.below (below_drewN (Below.refl wr.heap.size wr) nq)
              go_wp2
              go_roundw
              case rel => exact ⟨2 + 1, by omega, by go_num, by rw [E.out]; exact brq, grown_trans hgi (grown_of_below (below_drewN (Below.refl wr.heap.size wr) nq) _)⟩
              case measure => simp [intOf]
          · by_cases hb : letB 3 = lastB x
            · have E := Lib.hid (HSTEP.out hb)
              have ht : ((((⟨#[109, 115, 100, 97, 121, 110, 119]⟩ : ByteArray)[3]'(by decide)).toNat : Int) == (x[x.size - 1].toNat : Int)) = true := by rw [← HLB.out, ← hb]; rfl
              clear hb
              go_wp2_with fail
              go_quiet (fail)
              have brq := br.below (below_drewN (Below.refl wr.heap.size wr) nq)
              have HST := Lib.hid (brq.store tsV_len (i := 0) (j := 1) rfl (by omega) ⟨N, ((3 : Nat) : Int) + 1⟩ (.int .i64 (((3 : Nat) : Int) + 1)) rfl)
              go_wp2
              go_roundw
              case rel =>
                have hst := HST.out
                simp only [Nat.zero_mul, Nat.zero_add] at hst
                exact ⟨3 + 1, by omega, by go_num, by rw [E.out]; exact hst.1, grown_trans hgi (grown_trans (grown_of_below (below_drewN (Below.refl wr.heap.size wr) nq) _) hst.2)⟩
              case measure => simp [intOf]
            · have E := Lib.hid (HSTAY.out hb)
              have ht : ((((⟨#[109, 115, 100, 97, 121, 110, 119]⟩ : ByteArray)[3]'(by decide)).toNat : Int) == (x[x.size - 1].toNat : Int)) = false := by
                rw [beq_eq_false_iff_ne, ← HLB.out]
                intro e
                have e' : ((97 : Nat) : Int) = ((lastB x).toNat : Int) := e
                exact hb (UInt8.toNat_inj.1 (by show 97 = _; omega))
              clear hb
              go_wp2_with fail
              go_quiet (fail)
              have brq := br.below (below_drewN (Below.refl wr.heap.size wr) nq)
              go_wp2
              go_roundw
              case rel => exact ⟨3 + 1, by omega, by go_num, by rw [E.out]; exact brq, grown_trans hgi (grown_of_below (below_drewN (Below.refl wr.heap.size wr) nq) _)⟩
              case measure => simp [intOf]
          · by_cases hb : letB 4 = lastB x
            · have E := Lib.hid (HSTEP.out hb)
              have ht : ((((⟨#[109, 115, 100, 97, 121, 110, 119]⟩ : ByteArray)[4]'(by decide)).toNat : Int) == (x[x.size - 1].toNat : Int)) = true := by rw [← HLB.out, ← hb]; rfl
              clear hb
              go_wp2_with fail
              go_quiet (fail)
              have brq := br.below (below_drewN (Below.refl wr.heap.size wr) nq)
              have HST := Lib.hid (brq.store tsV_len (i := 0) (j := 1) rfl (by omega) ⟨N, ((4 : Nat) : Int) + 1⟩ (.int .i64 (((4 : Nat) : Int) + 1)) rfl)
              go_wp2
              go_roundw
              case rel =>
                have hst := HST.out
                simp only [Nat.zero_mul, Nat.zero_add] at hst
                exact ⟨4 + 1, by omega, by go_num, by rw [E.out]; exact hst.1, grown_trans hgi (grown_trans (grown_of_below (below_drewN (Below.refl wr.heap.size wr) nq) _) hst.2)⟩
              case measure => simp [intOf]
            · have E := Lib.hid (HSTAY.out hb)
              have ht : ((((⟨#[109, 115, 100, 97, 121, 110, 119]⟩ : ByteArray)[4]'(by decide)).toNat : Int) == (x[x.size - 1].toNat : Int)) = false := by
                rw [beq_eq_false_iff_ne, ← HLB.out]
                intro e
                have e' : ((121 : Nat) : Int) = ((lastB x).toNat : Int) := e
                exact hb (UInt8.toNat_inj.1 (by show 121 = _; omega))
              clear hb
              go_wp2_with fail
              go_quiet (fail)
              have brq := br.below (below_drewN (Below.refl wr.heap.size wr) nq)
              go_wp2
              go_roundw
              case rel => exact ⟨4 + 1, by omega, by go_num, by rw [E.out]; exact brq, grown_trans hgi (grown_of_below (below_drewN (Below.refl wr.heap.size wr) nq) _)⟩
              case measure => simp [intOf]
          · by_cases hb : letB 5 = lastB x
            · have E := Lib.hid (HSTEP.out hb)
              have ht : ((((⟨#[109, 115, 100, 97, 121, 110, 119]⟩ : ByteArray)[5]'(by decide)).toNat : Int) == (x[x.size - 1].toNat : Int)) = true := by rw [← HLB.out, ← hb]; rfl
              clear hb
              go_wp2_with fail
              go_quiet (fail)
              have brq := br.below (below_drewN (Below.refl wr.heap.size wr) nq)
              have HST := Lib.hid (brq.store tsV_len (i := 0) (j := 1) rfl (by omega) ⟨N, ((5 : Nat) : Int) + 1⟩ (.int .i64 (((5 : Nat) : Int) + 1)) rfl)
              go_wp2
              go_roundw
              case rel =>
                have hst := HST.out
                simp only [Nat.zero_mul, Nat.zero_add] at hst
                exact ⟨5 + 1, by omega, by go_num, by rw [E.out]; exact hst.1, grown_trans hgi (grown_trans (grown_of_below (below_drewN (Below.refl wr.heap.size wr) nq) _) hst.2)⟩
              case measure => simp [intOf]
            · have E := Lib.hid (HSTAY.out hb)
              have ht : ((((⟨#[109, 115, 100, 97, 121, 110, 119]⟩ : ByteArray)[5]'(by decide)).toNat : Int) == (x[x.size - 1].toNat : Int)) = false := by
                rw [beq_eq_false_iff_ne, ← HLB.out]
                intro e
                have e' : ((110 : Nat) : Int) = ((lastB x).toNat : Int) := e
                exact hb (UInt8.toNat_inj.1 (by show 110 = _; omega))
              clear hb
              go_wp2_with fail
              go_quiet (fail)
              have brq := br.below (below_drewN (Below.refl wr.heap.size wr) nq)
              go_wp2
              go_roundw
              case rel => exact ⟨5 + 1, by omega, by go_num, by rw [E.out]; exact brq, grown_trans hgi (grown_of_below (below_drewN (Below.refl wr.heap.size wr) nq) _)⟩
              case measure => simp [intOf]
          · by_cases hb : letB 6 = lastB x
            · have E := Lib.hid (HSTEP.out hb)
              have ht : ((((⟨#[109, 115, 100, 97, 121, 110, 119]⟩ : ByteArray)[6]'(by decide)).toNat : Int) == (x[x.size - 1].toNat : Int)) = true := by rw [← HLB.out, ← hb]; rfl
              clear hb
              go_wp2_with fail
              go_quiet (fail)
              have brq := br.below (below_drewN (Below.refl wr.heap.size wr) nq)
              have HST := Lib.hid (brq.store tsV_len (i := 0) (j := 1) rfl (by omega) ⟨N, ((6 : Nat) : Int) + 1⟩ (.int .i64 (((6 : Nat) : Int) + 1)) rfl)
              go_wp2
              go_roundw
              case rel =>
                have hst := HST.out
                simp only [Nat.zero_mul, Nat.zero_add] at hst
                exact ⟨6 + 1, by omega, by go_num, by rw [E.out]; exact hst.1, grown_trans hgi (grown_trans (grown_of_below (below_drewN (Below.refl wr.heap.size wr) nq) _) hst.2)⟩
              case measure => simp [intOf]
            · have E := Lib.hid (HSTAY.out hb)
              have ht : ((((⟨#[109, 115, 100, 97, 121, 110, 119]⟩ : ByteArray)[6]'(by decide)).toNat : Int) == (x[x.size - 1].toNat : Int)) = false := by
                rw [beq_eq_false_iff_ne, ← HLB.out]
                intro e
                have e' : ((119 : Nat) : Int) = ((lastB x).toNat : Int) := e
                exact hb (UInt8.toNat_inj.1 (by show 119 = _; omega))
              clear hb
              go_wp2_with fail
              go_quiet (fail)
              have brq := br.below (below_drewN (Below.refl wr.heap.size wr) nq)
              go_wp2
              go_roundw
              case rel => exact ⟨6 + 1, by omega, by go_num, by rw [E.out]; exact brq, grown_trans hgi (grown_of_below (below_drewN (Below.refl wr.heap.size wr) nq) _)⟩
              case measure => simp [intOf]
        · obtain rfl : kk = 7 := by omega
          clear hlb
          have tw3 := below_trans t2 b3
          have twi : Below w.heap.size w wr := tw3.trans (below_of_grown hgi tw3.size (fun j hj => by injection hj with hj; omega))
          cases G
          · have HG0 := HG
            clear x0 x1 xf
            have E := Lib.hid (parT_none (s := s) (fun l hg e => by have h9 := HG0.out l hg e; cases h9))
            go_wp2
            go_ret2
            exact ⟨⟨_, _, _, by rw [E.out]; rfl, by rw [E.out]; exact (Own.empty _ _ _ _).base_le (by have := (twi).size; omega)⟩, below_trans twi (below_alloc _)⟩
          · have hwok := HK.out rfl
            have HWK := Lib.hid hwok
            have hoi := ho3.grown hgi (by
              cases hA : blockOf B2 with
              | none => exact .inl rfl
              | some j => exact .inr (fun e => by injection e with e; have := (hob.lt hA).2; have h9 := HGG.out; omega))
            have hwi := hw3'.grown hgi (by
              cases hA : blockOf (some ⟨b1', o1, none⟩) with
              | none => exact .inl rfl
              | some j => exact .inr (fun e => by injection e with e; have := (hwb.lt hA).2; have h9 := HGG.out; omega))
            have HOI := Lib.hid hoi
            have HWI := Lib.hid hwi
            clear hwok hoi hwi ho3 hw3' hob hwb ho hw br c0
            have E2 : Hid (((cutS s 32).take (k + 1)).map candW = ((cutS s 32).take k).map candW ++ [⟨N, kU (lastB x) 7⟩]) := by
              show _ = _
              rw [List.take_add_one, HX.out, List.map_append, ← HC.out]; rfl
            have HN : Hid (∀ j x', j < k + 1 → (cutS s 32)[j]? = some x' → wOK x') := fun j x' hj hx' => by
              by_cases e : j = k
              · subst e; rw [HX.out] at hx'; injection hx' with hx'; rw [← hx']; exact HWK.out
              · exact HU.out j x' (by omega) hx'
            go_wp2_with (at_builtin; refine wpList_push rfl _ _ _ rfl w.heap.size 31 i0 (.agg #[.int .i64 0, .int .i64 0]) 2 16 Tryz.underlying24 hi hz0 hz1 hz2 rfl (by omega) tsV tsV_len one_tsP B2 k d2 _ rfl HOI.out (⟨N, kU (lastB x) 7⟩ : TS) _ rfl _ rfl (by first | rfl | simp) (by simp only [maxLen]; omega) (by omega) twi.size ?_; intro B3 d3 w5 ho5 hg5)
            go_roundw
            case rel => exact ⟨k + 1, by omega, by go_num, ⟨B3, d3, rfl, by rw [E2.out]; exact ho5⟩, HWI.out.grown hg5 (HWI.out.ne_block HOI.out (by decide)), HN.out, below_push twi HOI.out hg5 (Nat.le_refl _)⟩
            case measure => simp [intOf]; omega
    · obtain rfl : k = q := by omega
      have e9 : (cutS s 32).take k = cutS s 32 := List.take_of_length_le (by rw [HQ.out]; exact Nat.le_refl _)
      rw [e9] at ho
      have HA : Hid (goodL ((cutS s 32).map candW) = true → txt ((cutS s 32).map candW) = s) := fun h => hit_of (fun j x hj hx => HU.out j x (by rw [← HQ.out]; exact hj) hx) h
      have HB : Hid (∀ l, goodL l = true → txt l = s → l = (cutS s 32).map candW) := fun l hg e => by rw [words_of H0.out hg e, map_candW (good_iff.1 hg).1]
      clear e9
      generalize (cutS s 32).map candW = l at *
      go_wp2_with fail
      refine (l23Good_any _ _ _ _ _ (ho.rd tsV_len)).mono ?_
      rintro e w2 ⟨rfl, rfl⟩
      cases hg : goodL l
      · have HG := Lib.hid hg
        clear hg ho
        have E := Lib.hid (parT_none (s := s) (fun l hg e => by have h9 := HB.out _ hg e; rw [h9] at hg; rw [HG.out] at hg; cases hg))
        go_wp2
        go_ret2
        exact ⟨⟨_, _, _, by rw [E.out]; rfl, by rw [E.out]; exact (Own.empty _ _ _ _).base_le (by have := (tw).size; omega)⟩, below_trans tw (below_alloc _)⟩
      · have E := Lib.hid (parT_hit hg (HA.out hg))
        clear hg
        go_wp2
        go_ret2
        exact ⟨⟨_, _, _, by rw [E.out]; rfl, by rw [E.out]; exact ho⟩, tw⟩

set_option maxRecDepth 100000 in
set_option maxHeartbeats 1000000 in
theorem implParseTrace_any (s : ByteArray) (mx : Int) (ev : Value) (w : World) (hM : w.cell? ⟨0, 0, none⟩ = some (.int .i64 mx)) (hT : Lib.TabIs Tryz.prog w "internal/strconv.uint64pow10" .u64 Lib.pow10Tab) (hE : w.cell? ⟨1, 0, none⟩ = some ev) (hev : ev = .nilIface ∨ ∃ te pe, ev = .iface te pe) (hs : s.size ≤ 1048576) : Calls Tryz.prog 19 #[.string s] w fun e w' => (∃ B q d, e = .returned (.tuple #[.slice B q d, .bool (parT s).2]) ∧ Own tsV 2 w' w.heap.size 31 B q d (parT s).1) ∧ Below w.heap.size w w' := by
  obtain ⟨i0, hi, hz0, hz1, hz2⟩ := info_parts Tryz.infots
  have HM := Lib.hid hM
  have HT := Lib.hid hT
  have HE := Lib.hid hE
  have HEV := Lib.hid hev
  clear hM hT hE hev
  have o0 := Own.empty tsV 2 w 31
  have b0 := below_alloc (w := w) (.cells #[] 31)
  by_cases h0 : s.size = 0
  · have e0 := size_zeroP h0
    subst e0
    have E : Hid (parT ByteArray.empty = ([], true)) := parT_hit (l := []) rfl rfl
    go_enter Tryz.func19, Tryz.ntmps19
    go_wp2
    go_ret2
    exact ⟨⟨_, _, _, by rw [E.out]; rfl, by rw [E.out]; exact o0⟩, b0⟩
  have hne := toList_neP h0
  have H0 := Lib.hid h0
  clear h0
  have hsp := Split_any s 32 mx _ (by omega) (cell_below b0 HM.out)
  have HSP := Lib.hid hsp
  clear hsp
  go_enter Tryz.func19, Tryz.ntmps19
  go_wp2_with fail
  refine HSP.out.mono ?_
  rintro e w1 ⟨⟨B, q, d, rfl, hw⟩, b1⟩
  have t1 := below_trans b0 b1
  replace o0 := o0.below b1
  have hql := hw.len
  have hq := cutS_len s 32
  replace hw := hw.base_le (show w.heap.size ≤ _ by simp)
  have HQ := Lib.hid hql
  have hq2 : q ≤ 1048577 := by omega
  clear hql hq HSP
  go_wp2
  go_loopw [4, 17] (fun v i wr => ∃ k, k ≤ q ∧ k ≤ 24 ∧ i = .int .i64 k ∧ (∃ B2 d2, v = .slice B2 k d2 ∧ Own tsV 2 wr w.heap.size 31 B2 k d2 (((cutS s 32).take k).map candI)) ∧ Own stV 1 wr w.heap.size 9 B q d (cutS s 32) ∧ Below w.heap.size w wr) (fun _ i _ => q - (intOf i).toNat)
  case atStart => exact ⟨0, Nat.zero_le _, by omega, rfl, ⟨_, 0, rfl, o0⟩, hw, t1⟩
  case round =>
    clear o0 hw
    obtain ⟨k, hk, hk24, rfl, ⟨B2, d2, rfl, ho⟩, hw, tw⟩ := hrel
    by_cases hlt : k < q
    · obtain ⟨b1', o1, x, rfl, hx, c0⟩ := (hw.rd stV_len).st hlt
      have HX := Lib.hid hx
      have hxz := cutS_size (List.mem_of_getElem? hx)
      clear hx
      have hsub : IntKind.i64.wrap ((x.size : Int) - 1) = (x.size : Int) - 1 := IntWalk.i64_in _ (by omega)
      by_cases h2 : 2 ≤ x.size
      rotate_left
      · have H2 := Lib.hid h2
        have h2' : (x.size : Int) - 1 < 1 := by omega
        clear h2 ho hw
        have E := Lib.hid (parT_none (s := s) (fun l hg e => by obtain ⟨y, hy, e9⟩ := wordsG H0.out HX.out hg e; have h9 := (candI_wrd hy).2.2; rw [← e9] at h9; exact H2.out h9))
        go_wp2
        go_ret2
        exact ⟨⟨_, _, _, by rw [E.out]; rfl, by rw [E.out]; exact Own.nil _ _ _⟩, tw⟩
      by_cases hk4 : k = 24
      · have HK4 := Lib.hid hk4
        have hb24 : ((k : Int) == 24) = true := by rw [beq_iff_eq]; omega
        clear hk4 ho hw
        have E := Lib.hid (parT_none (s := s) (fun l hg e => by have h9 := congrArg List.length (words_of H0.out hg e); rw [List.length_map, HQ.out] at h9; have h8 := (good_iff.1 hg).2; have h7 := HK4.out; omega))
        go_wp2
        go_ret2
        exact ⟨⟨_, _, _, by rw [E.out]; rfl, by rw [E.out]; exact Own.nil _ _ _⟩, tw⟩
      have hb24 : ((k : Int) == 24) = false := by rw [beq_eq_false_iff_ne]; omega
      have hk23 : k ≤ 23 := by omega
      clear hk4
      have CR : Hid (∀ w1, Below w.heap.size w w1 → Calls Tryz.prog 39 #[.string (x.extract 0 (x.size - 1))] w1 fun e w' => e = .returned (.tuple #[.int .i64 (prI (hdB x)).1, .bool (prI (hdB x)).2]) ∧ Below w1.heap.size w1 w') := fun w1 hb => ParseInt_any _ ev w1 (by rw [ByteArray.size_extract]; omega) (pow10_below HT.out hb) (cell_below hb HE.out) HEV.out
      have HG : Hid (∀ l, goodL l = true → txt l = s → (prI (hdB x)).2 = true) := fun l hg e => by
        obtain ⟨y, hy, e9⟩ := wordsG H0.out HX.out hg e
        rw [e9]; exact (candI_wrd hy).2.1
      have hlb := lastB_eq (w := x) (by omega)
      have ix : x.size - 1 < x.size := by omega
      have CI : Hid (∀ w1, Calls Tryz.prog 40 #[.string ⟨#[32, 109, 115, 100, 97, 121, 110, 119]⟩, .int .u8 (x[x.size - 1].toNat : Int)] w1 fun e w' => e = .returned (.int .i64 (kI (lastB x))) ∧ w1 = w') := fun w1 => by
        refine (Tryz.strings_IndexByte _ _ w1).mono fun e w' h => ⟨?_, h.2.symm⟩
        rw [h.1, hlb]
        unfold kI
        rw [Lib.byte_back]
      have HC : Hid (candI x = ⟨(prI (hdB x)).1, kI (lastB x)⟩) := rfl
      clear hlb
      generalize (prI (hdB x)).1 = N at *
      generalize (prI (hdB x)).2 = G at *
      generalize kI (lastB x) = K at *
      go_wp2_with fail
      refine (CR.out _ tw).mono ?_
      rintro e w2 ⟨rfl, b2⟩
      have t2 := below_trans tw b2
      cases G
      · clear ho hw
        have E := Lib.hid (parT_none (s := s) (fun l hg e => by have h9 := HG.out l hg e; cases h9))
        go_wp2
        go_ret2
        exact ⟨⟨_, _, _, by rw [E.out]; rfl, by rw [E.out]; exact Own.nil _ _ _⟩, t2⟩
      replace ho := ho.below b2
      replace hw := hw.below b2
      replace c0 := cell_below b2 c0
      have HO := Lib.hid ho
      have HW := Lib.hid hw
      have E2 : Hid (((cutS s 32).take (k + 1)).map candI = ((cutS s 32).take k).map candI ++ [⟨N, K⟩]) := by
        show _ = _
        rw [List.take_add_one, HX.out, List.map_append, ← HC.out]; rfl
      clear ho hw CR
      go_wp2_with fail
      refine (CI.out _).mono ?_
      rintro e w2' ⟨rfl, rfl⟩
      clear CI
      go_wp2_with (at_builtin; refine wpList_push rfl _ _ _ rfl w.heap.size 31 i0 (.agg #[.int .i64 0, .int .i64 0]) 2 16 Tryz.underlying24 hi hz0 hz1 hz2 rfl (by omega) tsV tsV_len one_tsP B2 k d2 _ rfl HO.out (⟨N, K⟩ : TS) _ rfl _ rfl (by first | rfl | simp) (by simp only [maxLen]; omega) (by omega) t2.size ?_; intro B3 d3 w5 ho5 hg5)
      go_roundw
      case rel => exact ⟨k + 1, by omega, by omega, by go_num, ⟨B3, d3, rfl, by rw [E2.out]; exact ho5⟩, HW.out.grown hg5 (HW.out.ne_block HO.out (by decide)), below_push t2 HO.out hg5 (Nat.le_refl _)⟩
      case measure => simp [intOf]; omega
    · obtain rfl : k = q := by omega
      have e9 : (cutS s 32).take k = cutS s 32 := List.take_of_length_le (by rw [HQ.out]; exact Nat.le_refl _)
      rw [e9] at ho
      have HB : Hid (∀ l, goodL l = true → txt l = s → l = (cutS s 32).map candI) := fun l hg e => by rw [words_of H0.out hg e, map_candI (good_iff.1 hg).1]
      clear e9 hw
      generalize (cutS s 32).map candI = l at *
      go_wp2_with fail
      refine (implIsTraceList_any _ _ _ _ _ (ho.rd tsV_len)).mono ?_
      rintro e w2 ⟨rfl, b2⟩
      have t2 := below_trans tw b2
      replace ho := ho.below b2
      cases hg : goodL l
      · have HG := Lib.hid hg
        clear hg ho
        have E := Lib.hid (parT_none (s := s) (fun l hg e => by have h9 := HB.out _ hg e; rw [h9] at hg; rw [HG.out] at hg; cases hg))
        go_wp2
        go_ret2
        exact ⟨⟨_, _, _, by rw [E.out]; rfl, by rw [E.out]; exact Own.nil _ _ _⟩, t2⟩
      · have HG := Lib.hid hg
        obtain ⟨g1, g2⟩ := good_iff.1 hg
        have G1 := Lib.hid g1
        clear hg g1 g2
        go_wp2_with fail
        refine (traceText_any _ _ _ _ _ (ho.rd tsV_len) G1.out (by omega)).mono ?_
        rintro e w3 ⟨rfl, b3⟩
        have t3 := below_trans t2 b3
        replace ho := ho.below b3
        by_cases he : txt l = s
        · have ht := bytes_eq_t he
          have E := Lib.hid (parT_hit HG.out he)
          clear he
          go_wp2
          go_ret2
          exact ⟨⟨_, _, _, by rw [E.out]; rfl, by rw [E.out]; exact ho⟩, t3⟩
        · have ht := bytes_eq_f he
          have HNE := Lib.hid he
          clear he
          have E := Lib.hid (parT_none (s := s) (fun l hg e => by have h9 := HB.out _ hg e; rw [h9] at e; exact HNE.out e))
          go_wp2
          go_ret2
          exact ⟨⟨_, _, _, by rw [E.out]; rfl, by rw [E.out]; exact Own.nil _ _ _⟩, t3⟩

end Go.Proofs.YtmmogpbbehgkiaaGreatDoor
