/-
  YthphjncgbaknnaaGreatDoorJoin: words joined by spaces, and cut again. No program in sight.
-/
import Derived.Test.YthphjncgbaknnaaGreatDoorCut
import Derived.Test.YthphjncgbaknnaaGreatDoorSt
namespace Go.Proofs.YthphjncgbaknnaaGreatDoor
open Go Go.RowKit Go.Sort
set_option linter.unusedVariables false

theorem joinL_cons (x y : List UInt8) (l : List (List UInt8)) (sep : List UInt8) : Lib.join (x :: y :: l) sep = x ++ sep ++ Lib.join (y :: l) sep := by
  rw [Lib.join_cons, Lib.join_cons]
  simp [Lib.joinTail]
theorem joinS_cons (w : ByteArray) {r : List ByteArray} (h : r ≠ []) (sep : ByteArray) : joinS (w :: r) sep = w ++ sep ++ joinS r sep := by
  obtain ⟨y, l, rfl⟩ := List.exists_cons_of_ne_nil h
  unfold joinS
  apply ByteArray.ext
  rw [List.map_cons, List.map_cons, joinL_cons]
  simp
theorem joinS_two (w y : ByteArray) (r : List ByteArray) (sep : ByteArray) : joinS (w :: y :: r) sep = w ++ sep ++ joinS (y :: r) sep := joinS_cons w (by simp) sep
theorem joinL_cut (b : UInt8) : ∀ (l cur : List UInt8), Lib.join (cutL b cur l) [b] = cur ++ l
  | [], cur => by rw [cutL, Lib.join_one]; simp
  | x :: r, cur => by
    unfold cutL
    split
    · rename_i e
      obtain ⟨y, t, ht⟩ := List.exists_cons_of_ne_nil (cutL_ne b r [])
      have := joinL_cut b r []
      rw [ht] at this ⊢
      rw [joinL_cons, this, e]
      simp
    · rw [joinL_cut b r (cur ++ [x])]; simp
theorem join_cut (s : ByteArray) : joinS (cutS s 32) sp = s := by
  unfold joinS cutS
  have e : ((cutL 32 [] s.data.toList).map mkB).map (fun x : ByteArray => x.data.toList) = cutL 32 [] s.data.toList := by
    rw [List.map_map]
    exact (List.map_congr_left (fun x _ => data_mkB x)).trans (List.map_id _)
  rw [e]
  show (⟨(Lib.join (cutL 32 [] s.data.toList) [32]).toArray⟩ : ByteArray) = s
  rw [joinL_cut]
  exact mkB_data s
theorem cut_join {ws : List ByteArray} (h : ws ≠ []) (hb : ∀ w ∈ ws, (32 : UInt8) ∉ w.data.toList) : cutS (joinS ws sp) 32 = ws := by
  induction ws with
  | nil => exact absurd rfl h
  | cons w r ih =>
    by_cases hr : r = []
    · subst hr
      rw [joinS_one, cutS_end (hb w (by simp))]
    · rw [joinS_cons w hr]
      show cutS (w ++ ⟨#[32]⟩ ++ joinS r sp) 32 = _
      rw [cutS_app (hb w (by simp)), ih hr (fun x hx => hb x (by simp [hx]))]
theorem size_zeroP {p : ByteArray} (h : p.size = 0) : p = ByteArray.empty := by
  cases p with
  | mk d => cases d with | mk l => cases l with
    | nil => rfl
    | cons a t => cases h
theorem toList_neP {p : ByteArray} (h : ¬ p.size = 0) : p.toList.isEmpty = false := by
  cases he : p.toList.isEmpty
  · rfl
  · exact absurd (by rw [(toList_nil_iff_emptyBytes p).1 (List.isEmpty_iff.1 he)]; rfl) h

end Go.Proofs.YthphjncgbaknnaaGreatDoor
