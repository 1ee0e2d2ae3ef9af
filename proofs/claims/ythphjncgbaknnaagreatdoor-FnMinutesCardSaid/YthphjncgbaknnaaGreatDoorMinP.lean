/-
  YthphjncgbaknnaaGreatDoorMinP: ParseEntry: the plain law: the words of a sentence, and the entry that the reference reads off them. (Printed by wip/gen/minp.py.)
-/
import Derived.Test.YthphjncgbaknnaaGreatDoorMinX
import Derived.Test.YthphjncgbaknnaaGreatDoorJoin
import Derived.Test.YthphjncgbaknnaaGreatDoorRdn
namespace Go.Proofs.YthphjncgbaknnaaGreatDoor
open Go Go.RowKit Go.Sort
set_option linter.unusedVariables false
set_option linter.unusedSimpArgs false

/-- The words of a sentence. -/
def wds (x : EN) : List ByteArray :=
  if x.kind = 1 then [(⟨#[84, 104, 101]⟩ : ByteArray), (⟨#[99, 104, 97, 105, 114]⟩ : ByteArray), capS x.who, (⟨#[111, 112, 101, 110, 101, 100]⟩ : ByteArray), (⟨#[116, 104, 101]⟩ : ByteArray), (⟨#[109, 101, 101, 116, 105, 110, 103]⟩ : ByteArray)]
  else if x.kind = 2 then [capS x.who, (⟨#[109, 111, 118, 101, 100]⟩ : ByteArray), (⟨#[116, 111]⟩ : ByteArray), x.mo]
  else if x.kind = 3 then [capS x.who, (⟨#[115, 101, 99, 111, 110, 100, 101, 100]⟩ : ByteArray), (⟨#[116, 104, 101]⟩ : ByteArray), (⟨#[109, 111, 116, 105, 111, 110]⟩ : ByteArray), (⟨#[116, 111]⟩ : ByteArray), x.mo]
  else if x.kind = 6 then [(⟨#[84, 104, 101]⟩ : ByteArray), (⟨#[99, 104, 97, 105, 114]⟩ : ByteArray), capS x.who, (⟨#[99, 108, 111, 115, 101, 100]⟩ : ByteArray), (⟨#[116, 104, 101]⟩ : ByteArray), (⟨#[109, 101, 101, 116, 105, 110, 103]⟩ : ByteArray)]
  else if x.kind = 5 then (if x.pa then [(⟨#[84, 104, 101]⟩ : ByteArray), (⟨#[99, 104, 97, 105, 114]⟩ : ByteArray), capS x.who, (⟨#[114, 117, 108, 101, 100]⟩ : ByteArray), (⟨#[116, 104, 101]⟩ : ByteArray), (⟨#[109, 111, 116, 105, 111, 110]⟩ : ByteArray), (⟨#[116, 111]⟩ : ByteArray), x.mo, (⟨#[105, 110]⟩ : ByteArray), (⟨#[111, 114, 100, 101, 114]⟩ : ByteArray)] else [(⟨#[84, 104, 101]⟩ : ByteArray), (⟨#[99, 104, 97, 105, 114]⟩ : ByteArray), capS x.who, (⟨#[114, 117, 108, 101, 100]⟩ : ByteArray), (⟨#[116, 104, 101]⟩ : ByteArray), (⟨#[109, 111, 116, 105, 111, 110]⟩ : ByteArray), (⟨#[116, 111]⟩ : ByteArray), x.mo, (⟨#[111, 117, 116]⟩ : ByteArray), (⟨#[111, 102]⟩ : ByteArray), (⟨#[111, 114, 100, 101, 114]⟩ : ByteArray)])
  else (if 0 < x.ab then [(⟨#[84, 104, 101]⟩ : ByteArray), (⟨#[109, 111, 116, 105, 111, 110]⟩ : ByteArray), (⟨#[116, 111]⟩ : ByteArray), x.mo, (⟨#[119, 97, 115]⟩ : ByteArray), (if x.pa then (⟨#[97, 100, 111, 112, 116, 101, 100]⟩ : ByteArray) else (⟨#[114, 101, 106, 101, 99, 116, 101, 100]⟩ : ByteArray)), (⟨#[98, 121]⟩ : ByteArray), numS x.yes.toNat, (⟨#[116, 111]⟩ : ByteArray), numS x.no.toNat, (⟨#[119, 105, 116, 104]⟩ : ByteArray), numS x.ab.toNat, (⟨#[97, 98, 115, 116, 97, 105, 110, 105, 110, 103]⟩ : ByteArray)]
    else [(⟨#[84, 104, 101]⟩ : ByteArray), (⟨#[109, 111, 116, 105, 111, 110]⟩ : ByteArray), (⟨#[116, 111]⟩ : ByteArray), x.mo, (⟨#[119, 97, 115]⟩ : ByteArray), (if x.pa then (⟨#[97, 100, 111, 112, 116, 101, 100]⟩ : ByteArray) else (⟨#[114, 101, 106, 101, 99, 116, 101, 100]⟩ : ByteArray)), (⟨#[98, 121]⟩ : ByteArray), numS x.yes.toNat, (⟨#[116, 111]⟩ : ByteArray), numS x.no.toNat])
/-- A word with a small first letter. -/
def lowB (b : UInt8) : ByteArray := ⟨#[UInt8.ofNat (((b.toNat : Int) - 65 + 97) % 256).toNat]⟩
def smallS (s : ByteArray) : ByteArray := if h : 0 < s.size then (if (s[0].toNat : Int) < 65 ∨ 90 < (s[0].toNat : Int) then ⟨#[]⟩ else lowB s[0] ++ s.extract 1 s.size) else ⟨#[]⟩

theorem word_bytes {s : ByteArray} (h : wordB s = true) : ∀ b ∈ s.data.toList, 97 ≤ b.toNat ∧ b.toNat ≤ 122 := by
  unfold wordB at h
  rw [Bool.and_eq_true] at h
  intro b hb
  have := List.all_eq_true.1 h.1 b hb
  simp [wdByte] at this
  omega
theorem word_not {s : ByteArray} (h : wordB s = true) {b : UInt8} (hb : b.toNat < 97) : b ∉ s.data.toList := fun hm => by have := word_bytes h b hm; omega
theorem cap_data {s : ByteArray} (h : 0 < s.size) : (capS s).data.toList = UInt8.ofNat (((s[0].toNat : Int) - 97 + 65) % 256).toNat :: s.data.toList.drop 1 := by
  unfold capS
  rw [dif_pos h]
  have e : (s.extract 1 s.size).data.toList = s.data.toList.drop 1 := Lib.extract_to_end s 1
  show (capB s[0] ++ s.extract 1 s.size).data.toList = _
  have e2 : (capB s[0] ++ s.extract 1 s.size).data.toList = (capB s[0]).data.toList ++ (s.extract 1 s.size).data.toList := by simp
  rw [e2, e]
  rfl
theorem cap_head {s : ByteArray} (h : wordB s = true) (h0 : 0 < s.size) : 65 ≤ (UInt8.ofNat (((s[0].toNat : Int) - 97 + 65) % 256).toNat).toNat ∧ (UInt8.ofNat (((s[0].toNat : Int) - 97 + 65) % 256).toNat).toNat ≤ 90 ∧ (UInt8.ofNat (((s[0].toNat : Int) - 97 + 65) % 256).toNat).toNat + 32 = s[0].toNat := by
  have hb := word_bytes h s[0] (List.mem_of_getElem? (byte_get h0))
  have e : (UInt8.ofNat (((s[0].toNat : Int) - 97 + 65) % 256).toNat).toNat = (((s[0].toNat : Int) - 97 + 65) % 256).toNat := by
    rw [UInt8.toNat_ofNat']
    omega
  rw [e]
  omega
theorem cap_not {s : ByteArray} (h : wordB s = true) {b : UInt8} (hb : b.toNat < 65) : b ∉ (capS s).data.toList := by
  have h0 := (word_size h).1
  rw [cap_data (by omega), List.mem_cons, not_or]
  refine ⟨fun e => ?_, fun hm => ?_⟩
  · have := cap_head h (by omega)
    rw [← e] at this
    omega
  · have := word_bytes h b (List.mem_of_mem_drop hm)
    omega
theorem cap_sz {s : ByteArray} (h : 0 < s.size) : (capS s).size = s.size := by
  have e := congrArg List.length (cap_data h)
  have e2 : (capS s).data.toList.length = (capS s).size := rfl
  have e3 : s.data.toList.length = s.size := rfl
  rw [e2, List.length_cons, List.length_drop, e3] at e
  omega
theorem small_cap {s : ByteArray} (h : wordB s = true) : smallS (capS s) = s := by
  have h0 : 0 < s.size := by have := (word_size h).1; omega
  have hc : 0 < (capS s).size := by rw [cap_sz h0]; exact h0
  obtain ⟨k1, k2, k3⟩ := cap_head h h0
  have hg : (capS s)[0] = UInt8.ofNat (((s[0].toNat : Int) - 97 + 65) % 256).toNat := by
    have := byte_get (p := capS s) (k := 0) hc
    rw [cap_data h0] at this
    exact (Option.some.inj this).symm
  unfold smallS
  rw [dif_pos hc, hg, if_neg (by omega)]
  apply ByteArray.ext
  rw [← Array.toList_inj]
  have e2 : ((capS s).extract 1 (capS s).size).data.toList = (capS s).data.toList.drop 1 := Lib.extract_to_end _ 1
  have e3 : (lowB (UInt8.ofNat (((s[0].toNat : Int) - 97 + 65) % 256).toNat) ++ (capS s).extract 1 (capS s).size).data.toList = (lowB (UInt8.ofNat (((s[0].toNat : Int) - 97 + 65) % 256).toNat)).data.toList ++ ((capS s).extract 1 (capS s).size).data.toList := by simp
  rw [e3, e2, cap_data h0]
  have e4 : (lowB (UInt8.ofNat (((s[0].toNat : Int) - 97 + 65) % 256).toNat)).data.toList = [s[0]] := by
    unfold lowB
    generalize UInt8.ofNat (((s[0].toNat : Int) - 97 + 65) % 256).toNat = v at *
    have : UInt8.ofNat (((v.toNat : Int) - 65 + 97) % 256).toNat = s[0] := by
      apply UInt8.toNat_inj.1
      rw [UInt8.toNat_ofNat']
      omega
    rw [this]
  rw [e4]
  have hl : 0 < s.data.toList.length := h0
  have e5 : s.data.toList = s[0] :: s.data.toList.drop 1 := by
    conv => lhs; rw [← List.drop_zero (l := s.data.toList), List.drop_eq_getElem_cons hl]
    rfl
  rw [List.drop_succ_cons, List.drop_zero, List.singleton_append]
  exact e5.symm

theorem num_k {n : Nat} (h : n ≤ 1000) : (numS n).size ≤ 4 := by
  by_cases h1 : n < 10
  · rw [numS_small h1]; show 1 ≤ 4; omega
  rw [numS_big h1, ByteArray.size_append]
  by_cases h2 : n / 10 < 10
  · rw [numS_small h2]; show 2 ≤ 4; omega
  rw [numS_big h2, ByteArray.size_append]
  by_cases h3 : n / 10 / 10 < 10
  · rw [numS_small h3]; show 3 ≤ 4; omega
  rw [numS_big h3, ByteArray.size_append, numS_small (by omega)]
  show 4 ≤ 4; omega
/-- A sentence is its words with a full stop. -/
theorem sen_wds {x : EN} (h : EnOK x) : senS x = joinS (wds x) sp ++ (⟨#[46]⟩ : ByteArray) := by
  obtain ⟨kind, who, mo, y, n, a, pa⟩ := x
  have hk : kind = 1 ∨ kind = 2 ∨ kind = 3 ∨ kind = 4 ∨ kind = 5 ∨ kind = 6 := by
    unfold EnOK at h
    dsimp only at h
    omega
  unfold senS wds
  dsimp only
  rcases hk with rfl | rfl | rfl | rfl | rfl | rfl
  · simp only [if_pos, joinS_two, joinS_one]
    apply ByteArray.ext; rw [← Array.toList_inj]; simp [sp]
  · simp [joinS_two, joinS_one]
    apply ByteArray.ext; rw [← Array.toList_inj]; simp [sp]
  · simp [joinS_two, joinS_one]
    apply ByteArray.ext; rw [← Array.toList_inj]; simp [sp]
  · cases pa <;> by_cases hab : 0 < a
    · simp [votS, hab, joinS_two, joinS_one]
      apply ByteArray.ext; rw [← Array.toList_inj]; simp [sp]
    · simp [votS, hab, joinS_two, joinS_one]
      apply ByteArray.ext; rw [← Array.toList_inj]; simp [sp]
    · simp [votS, hab, joinS_two, joinS_one]
      apply ByteArray.ext; rw [← Array.toList_inj]; simp [sp]
    · simp [votS, hab, joinS_two, joinS_one]
      apply ByteArray.ext; rw [← Array.toList_inj]; simp [sp]
  · cases pa
    · simp [joinS_two, joinS_one]
      apply ByteArray.ext; rw [← Array.toList_inj]; simp [sp]
    · simp [joinS_two, joinS_one]
      apply ByteArray.ext; rw [← Array.toList_inj]; simp [sp]
  · simp [joinS_two, joinS_one]
    apply ByteArray.ext; rw [← Array.toList_inj]; simp [sp]
theorem wds_ne (x : EN) : wds x ≠ [] := by
  unfold wds
  repeat' split
  all_goals simp

/-! ### the reference's candidate -/
def wdI (ws : List ByteArray) (i : Nat) : ByteArray := ws.getD i ⟨#[]⟩
def candE (ws : List ByteArray) : EN :=
  if ws.length = 4 ∧ wdI ws 1 = (⟨#[109, 111, 118, 101, 100]⟩ : ByteArray) then ⟨2, smallS (wdI ws 0), wdI ws 3, 0, 0, 0, false⟩
  else if ws.length = 6 ∧ wdI ws 1 = (⟨#[115, 101, 99, 111, 110, 100, 101, 100]⟩ : ByteArray) then ⟨3, smallS (wdI ws 0), wdI ws 5, 0, 0, 0, false⟩
  else if ws.length = 6 ∧ wdI ws 3 = (⟨#[111, 112, 101, 110, 101, 100]⟩ : ByteArray) then ⟨1, smallS (wdI ws 2), ⟨#[]⟩, 0, 0, 0, false⟩
  else if ws.length = 6 ∧ wdI ws 3 = (⟨#[99, 108, 111, 115, 101, 100]⟩ : ByteArray) then ⟨6, smallS (wdI ws 2), ⟨#[]⟩, 0, 0, 0, false⟩
  else if 10 ≤ ws.length ∧ wdI ws 1 = (⟨#[99, 104, 97, 105, 114]⟩ : ByteArray) ∧ wdI ws 3 = (⟨#[114, 117, 108, 101, 100]⟩ : ByteArray) then ⟨5, smallS (wdI ws 2), wdI ws 7, 0, 0, 0, decide (wdI ws 8 = (⟨#[105, 110]⟩ : ByteArray))⟩
  else if 10 ≤ ws.length ∧ wdI ws 1 = (⟨#[109, 111, 116, 105, 111, 110]⟩ : ByteArray) then ⟨4, ⟨#[]⟩, wdI ws 3, (rdP (wdI ws 7)).1, (rdP (wdI ws 9)).1, if ws.length = 13 then (rdP (wdI ws 11)).1 else 0, decide (wdI ws 5 = (⟨#[97, 100, 111, 112, 116, 101, 100]⟩ : ByteArray))⟩
  else ⟨0, ⟨#[]⟩, ⟨#[]⟩, 0, 0, 0, false⟩
theorem rdP_numE {n : Int} (h0 : 0 ≤ n) (h1 : n ≤ 1000) : rdP (numS n.toNat) = (n, true) := by
  obtain ⟨h2, h3⟩ := rdP_LR (numS n.toNat) n.toNat (by omega) rfl
  exact Prod.ext (by rw [h2]; exact Int.toNat_of_nonneg h0) h3
theorem prI_numE {n : Int} (h0 : 0 ≤ n) (h1 : n ≤ 1000) : prI (numS n.toNat) = (n, true) := by
  obtain ⟨h2, h3⟩ := prI_LR (numS n.toNat) n.toNat (by omega) rfl
  exact Prod.ext (by rw [h2]; exact Int.toNat_of_nonneg h0) h3
theorem emp_of {s : ByteArray} (h : s.toList = []) : s = ⟨#[]⟩ := (toList_nil_iff_emptyBytes s).1 h
theorem en_kinds {x : EN} (h : EnOK x) :
    (∃ who, wordB who = true ∧ (x = ⟨1, who, ⟨#[]⟩, 0, 0, 0, false⟩ ∨ x = ⟨6, who, ⟨#[]⟩, 0, 0, 0, false⟩)) ∨ (∃ who mo, wordB who = true ∧ wordB mo = true ∧ (x = ⟨2, who, mo, 0, 0, 0, false⟩ ∨ x = ⟨3, who, mo, 0, 0, 0, false⟩)) ∨
    (∃ mo y n a pa, wordB mo = true ∧ (0 ≤ y ∧ y ≤ 1000) ∧ (0 ≤ n ∧ n ≤ 1000) ∧ (0 ≤ a ∧ a ≤ 1000) ∧ x = ⟨4, ⟨#[]⟩, mo, y, n, a, pa⟩) ∨ (∃ who mo pa, wordB who = true ∧ wordB mo = true ∧ x = ⟨5, who, mo, 0, 0, 0, pa⟩) := by
  obtain ⟨kind, who, mo, y, n, a, pa⟩ := x
  unfold EnOK at h
  dsimp only at h
  rcases h with ⟨h1, h2, h3, ⟨h4, h5, h6⟩, h7⟩ | ⟨h1, h2, h3, ⟨h4, h5, h6⟩, h7⟩ | ⟨h1, h2, h3, h4, h5, h6⟩ | ⟨h1, h2, h3, h4, h5, h6⟩
  · have := emp_of h3
    subst this h4 h5 h6 h7
    exact .inl ⟨who, h2, by rcases h1 with rfl | rfl; exact .inl rfl; exact .inr rfl⟩
  · subst h4 h5 h6 h7
    exact .inr (.inl ⟨who, mo, h2, h3, by rcases h1 with rfl | rfl; exact .inl rfl; exact .inr rfl⟩)
  · have := emp_of h2
    subst this h1
    exact .inr (.inr (.inl ⟨mo, y, n, a, pa, h3, h4, h5, h6, rfl⟩))
  · subst h1 h4 h5 h6
    exact .inr (.inr (.inr ⟨who, mo, pa, h2, h3, rfl⟩))
theorem wds_not {x : EN} (h : EnOK x) {b : UInt8} (hb : b = 32 ∨ b = 46) : ∀ w ∈ wds x, b ∉ w.data.toList := by
  have hb1 : b.toNat < 48 := by rcases hb with rfl | rfl <;> decide
  have hnum : ∀ n, b ∉ (numS n).data.toList := fun n => numS_not (.inl hb1)
  have hlit : ∀ l : List UInt8, (∀ y ∈ l, y ≠ 32 ∧ y ≠ 46) → b ∉ l := fun l hl hm => by rcases hb with rfl | rfl; exact (hl _ hm).1 rfl; exact (hl _ hm).2 rfl
  have hcap : ∀ who, wordB who = true → b ∉ (capS who).data.toList := fun who hw => cap_not hw (by omega)
  have hmo : ∀ mo, wordB mo = true → b ∉ mo.data.toList := fun mo hw => word_not hw (by omega)
  rcases en_kinds h with ⟨who, hw, rfl | rfl⟩ | ⟨who, mo, hw, hm, rfl | rfl⟩ | ⟨mo, y, n, a, pa, hm, hy, hn, ha, rfl⟩ | ⟨who, mo, pa, hw, hm, rfl⟩
  all_goals (try have k1 := hcap _ hw)
  all_goals (try have k2 := hmo _ hm)
  all_goals unfold wds
  all_goals (try cases pa)
  all_goals (try by_cases hab : 0 < a)
  all_goals simp only [reduceCtorEq, if_pos, if_neg, *, if_true, if_false, Bool.false_eq_true, List.mem_cons, List.not_mem_nil, or_false, forall_eq_or_imp, forall_eq, show ¬ ((2 : Int) = 1) by decide, show ¬ ((3 : Int) = 1) by decide, show ¬ ((3 : Int) = 2) by decide, show ¬ ((6 : Int) = 1) by decide, show ¬ ((6 : Int) = 2) by decide, show ¬ ((6 : Int) = 3) by decide, show ¬ ((5 : Int) = 1) by decide, show ¬ ((5 : Int) = 2) by decide, show ¬ ((5 : Int) = 3) by decide, show ¬ ((5 : Int) = 6) by decide, show ¬ ((4 : Int) = 1) by decide, show ¬ ((4 : Int) = 2) by decide, show ¬ ((4 : Int) = 3) by decide, show ¬ ((4 : Int) = 6) by decide, show ¬ ((4 : Int) = 5) by decide]
  all_goals (repeat' apply And.intro)
  all_goals first | trivial | exact hnum _ | exact k1 | exact k2 | exact hlit _ (by decide) | (rcases hb with rfl | rfl <;> decide)
theorem candE_wds {x : EN} (h : EnOK x) : candE (wds x) = x := by
  rcases en_kinds h with ⟨who, hw, rfl | rfl⟩ | ⟨who, mo, hw, hm, rfl | rfl⟩ | ⟨mo, y, n, a, pa, hm, hy, hn, ha, rfl⟩ | ⟨who, mo, pa, hw, hm, rfl⟩
  · simp [candE, wds, wdI, small_cap hw]
  · simp [candE, wds, wdI, small_cap hw]
  · simp [candE, wds, wdI, small_cap hw]
  · simp [candE, wds, wdI, small_cap hw]
  · by_cases hab : 0 < a
    · cases pa <;> simp [candE, wds, wdI, hab, rdP_numE hy.1 hy.2, rdP_numE hn.1 hn.2, rdP_numE ha.1 ha.2]
    · have : a = 0 := by omega
      subst this
      cases pa <;> simp [candE, wds, wdI, rdP_numE hy.1 hy.2, rdP_numE hn.1 hn.2]
  · cases pa <;> simp [candE, wds, wdI, small_cap hw]
theorem senS_ext {x : EN} (h : EnOK x) : (senS x).extract 0 ((senS x).size - 1) = joinS (wds x) sp ∧ 1 ≤ (senS x).size ∧ ∀ hz : (senS x).size - 1 < (senS x).size, (senS x)[(senS x).size - 1] = 46 := by
  have e := sen_wds h
  generalize senS x = s at *
  generalize joinS (wds x) sp = j at *
  subst e
  have hz : (j ++ (⟨#[46]⟩ : ByteArray)).size = j.size + 1 := by rw [ByteArray.size_append]; rfl
  have hd : (j ++ (⟨#[46]⟩ : ByteArray)).data.toList = j.data.toList ++ [46] := by simp
  refine ⟨?_, by omega, fun hz' => ?_⟩
  · apply ByteArray.ext
    rw [← Array.toList_inj, Lib.extract_from_zero, hd, hz, Nat.add_sub_cancel]
    have : j.size = j.data.toList.length := rfl
    rw [this]
    simp
  · have h9 := byte_get (p := j ++ (⟨#[46]⟩ : ByteArray)) (k := (j ++ (⟨#[46]⟩ : ByteArray)).size - 1) hz'
    generalize (j ++ (⟨#[46]⟩ : ByteArray))[(j ++ (⟨#[46]⟩ : ByteArray)).size - 1] = v at h9 ⊢
    rw [hd, hz, Nat.add_sub_cancel] at h9
    have : j.size = j.data.toList.length := rfl
    rw [this, List.getElem?_append_right (Nat.le_refl _), Nat.sub_self] at h9
    exact (Option.some.inj h9).symm
theorem sen_words {x : EN} (h : EnOK x) : cutS ((senS x).extract 0 ((senS x).size - 1)) 32 = wds x := by
  rw [(senS_ext h).1]
  exact cut_join (wds_ne x) (wds_not h (.inl rfl))
theorem votS_33 {y n a : Int} (h0 : 0 ≤ y ∧ y ≤ 1000) (h1 : 0 ≤ n ∧ n ≤ 1000) (h2 : 0 ≤ a ∧ a ≤ 1000) : (votS y n a).size ≤ 33 := by
  have := num_k (n := y.toNat) (by omega)
  have := num_k (n := n.toNat) (by omega)
  have := num_k (n := a.toNat) (by omega)
  by_cases h : 0 < a
  · rw [votS_yes h]; simp only [ByteArray.size_append, szTo, szWith, szAbst]; omega
  · rw [votS_no h]; simp only [ByteArray.size_append, szTo]; omega
theorem senS_80 {x : EN} (h : EnOK x) : (senS x).size ≤ 80 ∧ 2 ≤ (senS x).size := by
  rcases en_kinds h with ⟨who, hw, rfl | rfl⟩ | ⟨who, mo, hw, hm, rfl | rfl⟩ | ⟨mo, y, n, a, pa, hm, hy, hn, ha, rfl⟩ | ⟨who, mo, pa, hw, hm, rfl⟩
  all_goals (try have h1 := word_size hw)
  all_goals (try have h2 := word_size hm)
  all_goals (try have h3 := capS_size who)
  all_goals (try have h4 := votS_33 hy hn ha)
  all_goals (try cases pa)
  all_goals (simp [senS, sz_CH, sz_OP, sz_CL, sz_MV, sz_SE, sz_DOT, sz_RU, sz_INO, sz_OUTO, sz_MT, sz_WAS, sz_ADO, sz_REJ, sz_BY]; omega)
/-- What both ParseEntry give. -/
def parE (s : ByteArray) : EN × Bool := if enOK (candE (cutS (s.extract 0 (s.size - 1)) 32)) = true ∧ senS (candE (cutS (s.extract 0 (s.size - 1)) 32)) = s then (candE (cutS (s.extract 0 (s.size - 1)) 32), true) else (⟨0, ⟨#[]⟩, ⟨#[]⟩, 0, 0, 0, false⟩, false)
theorem parE_hit {s : ByteArray} {x : EN} (h : enOK x = true) (e : senS x = s) : parE s = (x, true) := by
  subst e
  have h' := of_decide_eq_true h
  unfold parE
  rw [sen_words h', candE_wds h', if_pos ⟨h, rfl⟩]
theorem parE_none {s : ByteArray} (h : ∀ y, enOK y = true → senS y ≠ s) : parE s = (⟨0, ⟨#[]⟩, ⟨#[]⟩, 0, 0, 0, false⟩, false) := by
  unfold parE
  exact if_neg (fun e => h _ e.1 e.2)
theorem parE_yes {s : ByteArray} (h : (parE s).2 = true) : enOK (parE s).1 = true ∧ senS (parE s).1 = s := by
  unfold parE at h ⊢
  split
  · assumption
  · rename_i hn; rw [if_neg hn] at h; cases h

/-! ### the program's candidates -/
def wdA (ws : List ByteArray) (i : Nat) : ByteArray := if i < ws.length then smallS (wdI ws i) else ⟨#[]⟩
def votW (ws : List ByteArray) : List ByteArray := if (ws.drop 7).length = 3 then ws.drop 7 ++ [(⟨#[119, 105, 116, 104]⟩ : ByteArray), (⟨#[48]⟩ : ByteArray)] else ws.drop 7
def votR (ws : List ByteArray) : Option (Int × Int × Int) :=
  if (votW ws).length < 5 then none
  else if (prI (wdI (votW ws) 0)).2 = true ∧ (prI (wdI (votW ws) 2)).2 = true ∧ (prI (wdI (votW ws) 4)).2 = true then some ((prI (wdI (votW ws) 0)).1, (prI (wdI (votW ws) 2)).1, (prI (wdI (votW ws) 4)).1) else none
def candL (ws : List ByteArray) : List EN :=
  [⟨1, wdA ws 2, ⟨#[]⟩, 0, 0, 0, false⟩, ⟨6, wdA ws 2, ⟨#[]⟩, 0, 0, 0, false⟩, ⟨2, wdA ws 0, wdI ws (ws.length - 1), 0, 0, 0, false⟩, ⟨3, wdA ws 0, wdI ws (ws.length - 1), 0, 0, 0, false⟩] ++
  (if 8 < ws.length then ⟨5, wdA ws 2, wdI ws 7, 0, 0, 0, decide (wdI ws 8 = (⟨#[105, 110]⟩ : ByteArray))⟩ ::
    (match votR ws with | none => [] | some v => [⟨4, ⟨#[]⟩, wdI ws 3, v.1, v.2.1, v.2.2, decide (wdI ws 5 = (⟨#[97, 100, 111, 112, 116, 101, 100]⟩ : ByteArray))⟩]) else [])
theorem candL_wds {x : EN} (h : EnOK x) : x ∈ candL (wds x) := by
  rcases en_kinds h with ⟨who, hw, rfl | rfl⟩ | ⟨who, mo, hw, hm, rfl | rfl⟩ | ⟨mo, y, n, a, pa, hm, hy, hn, ha, rfl⟩ | ⟨who, mo, pa, hw, hm, rfl⟩
  · simp [candL, wds, wdI, wdA, small_cap hw]
  · simp [candL, wds, wdI, wdA, small_cap hw]
  · simp [candL, wds, wdI, wdA, small_cap hw]
  · simp [candL, wds, wdI, wdA, small_cap hw]
  · by_cases hab : 0 < a
    · cases pa <;> simp [candL, wds, wdI, wdA, votR, votW, hab, prI_numE hy.1 hy.2, prI_numE hn.1 hn.2, prI_numE ha.1 ha.2]
    · have : a = 0 := by omega
      subst this
      have hz : prI (⟨#[48]⟩ : ByteArray) = (0, true) := by
        have h9 := prI_numE (n := 0) (by omega) (by omega)
        rwa [show (0 : Int).toNat = 0 from rfl, numS_small (by omega)] at h9
      cases pa <;> simp [candL, wds, wdI, wdA, votR, votW, prI_numE hy.1 hy.2, prI_numE hn.1 hn.2, hz]
  · cases pa <;> simp [candL, wds, wdI, wdA, small_cap hw]
/-- Without its full stop. -/
def trimD (s : ByteArray) : ByteArray := ⟨(Lib.trimSuffix s.data.toList [46]).toArray⟩
theorem trimD_sen {x : EN} (h : EnOK x) : trimD (senS x) = joinS (wds x) sp := by
  rw [sen_wds h]
  generalize joinS (wds x) sp = j
  have hd : (j ++ (⟨#[46]⟩ : ByteArray)).data.toList = j.data.toList ++ [46] := by simp
  unfold trimD
  rw [hd]
  have e2 : Lib.trimSuffix (j.data.toList ++ [46]) [46] = j.data.toList := by
    unfold Lib.trimSuffix Lib.hasSuffix
    rw [if_pos (List.isSuffixOf_iff_suffix.2 (List.suffix_append _ _))]
    simp
  rw [e2]
theorem sen_wordsI {x : EN} (h : EnOK x) : cutS (trimD (senS x)) 32 = wds x := by
  rw [trimD_sen h]
  exact cut_join (wds_ne x) (wds_not h (.inl rfl))

end Go.Proofs.YthphjncgbaknnaaGreatDoor
