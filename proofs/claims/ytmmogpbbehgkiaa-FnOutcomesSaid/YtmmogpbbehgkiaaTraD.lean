/-
  YtmmogpbbehgkiaaTraD: traces: which traces are orderly: spec.l23Fine, spec.l23Orderly, impl.isOrderly, spec.l23Asked, impl.areOrderly.
-/
import Derived.Test.YtmmogpbbehgkiaaTraC
namespace Go.Proofs.Ytmmogpbbehgkiaa
open Go Go.RowKit Go.Sort
set_option linter.unusedVariables false

/-- Whether a step may stand at place i of n: isM: it moves, is2: it seconds, is5: it ends. -/
def okG (isM is2 is5 : Bool) (n i : Nat) : Bool := (isM == decide (i = 0)) && (!is2 || decide (i = 1)) && (!is5 || decide (i + 1 = n))
def okK (x : Int) (n i : Nat) : Bool := okG (x == 1) (x == 2) (decide (5 ≤ x)) n i
def endB (b : Int) : Bool := b == 121 || b == 110 || b == 119
def okP (b : Int) (n i : Nat) : Bool := okG (b == 109) (b == 115) (endB b) n i
def fine (ks : List Int) : Bool := (List.range ks.length).all fun i => okK (ks.getD i 0) ks.length i
def fineP (p : ByteArray) : Bool := (List.range p.size).all fun i => okP ((p.data.toList.getD i 0).toNat : Int) p.size i
/-- An orderly trace. -/
def ordL (l : List TS) : Bool := (List.range 20).all fun (j : Nat) => fine (kinds l ((j : Int) + 1))

theorem okP_letter {x : Int} (h1 : 1 ≤ x) (h2 : x ≤ 7) (n i : Nat) : okP ((letter x).toNat : Int) n i = okK x n i := by
  have h : x = 1 ∨ x = 2 ∨ x = 3 ∨ x = 4 ∨ x = 5 ∨ x = 6 ∨ x = 7 := by omega
  rcases h with rfl | rfl | rfl | rfl | rfl | rfl | rfl <;> rfl
theorem fineP_path {l : List TS} (hg : l.all tsOK = true) (m : Int) : fineP (path l m) = fine (kinds l m) := by
  have hs : (path l m).size = (kinds l m).length := by
    show (((kinds l m).map letter).toArray).size = _
    simp
  unfold fineP fine
  rw [hs]
  rw [Bool.eq_iff_iff, List.all_eq_true, List.all_eq_true]
  have e : ∀ i ∈ List.range (kinds l m).length, okP (((path l m).data.toList.getD i 0).toNat : Int) (kinds l m).length i = okK ((kinds l m).getD i 0) (kinds l m).length i := by
    intro i hi
    have hi' : i < (kinds l m).length := by simpa using hi
    have hx : (kinds l m)[i]? = some (kinds l m)[i] := List.getElem?_eq_getElem hi'
    obtain ⟨h1, h2⟩ := kinds_mem hg hx
    have e1 : (kinds l m).getD i 0 = (kinds l m)[i] := by simp [List.getD, hx]
    have e2 : (path l m).data.toList.getD i 0 = letter (kinds l m)[i] := by
      show (((kinds l m).map letter).toArray.toList).getD i 0 = _
      simp [List.getD, hx]
    rw [e1, e2, okP_letter h1 h2]
  exact ⟨fun h i hi => by rw [← e i hi]; exact h i hi, fun h i hi => by rw [e i hi]; exact h i hi⟩

theorem all_range_upto {p : Nat → Bool} {n : Nat} (h : ∀ j, j < n → p j = true) : (List.range n).all p = true := by
  rw [List.all_eq_true]; intro i hi; exact h i (by simpa using hi)
theorem all_range_fails {p : Nat → Bool} {n k : Nat} (hk : k < n) (h : p k = false) : (List.range n).all p = false := by
  rw [List.all_eq_false]; exact ⟨k, by simpa using hk, by simp [h]⟩
theorem upto_succ {p : Nat → Prop} {k : Nat} (h : ∀ j, j < k → p j) (hk : p k) : ∀ j, j < k + 1 → p j := fun j hj => by
  by_cases e : j = k
  · rw [e]; exact hk
  · exact h j (by omega)

theorem l23Ended_any (b : Int) (w : World) : Calls Try.prog 51 #[.int .u8 b] w fun e w' => e = .returned (.bool (endB b)) ∧ w = w' := by
  cases e1 : (b == 121)
  · cases e2 : (b == 110)
    · have E := Lib.hid (show endB b = (b == 119) by simp [endB, e1, e2])
      go_enter Try.func51, Try.ntmps51
      go_wp2
      go_ret
      exact ⟨ret_bool E.out.symm, rfl⟩
    · have E := Lib.hid (show endB b = true by simp [endB, e1, e2])
      go_enter Try.func51, Try.ntmps51
      go_wp2
      go_ret
      exact ⟨ret_bool E.out.symm, rfl⟩
  · have E := Lib.hid (show endB b = true by simp [endB, e1])
    go_enter Try.func51, Try.ntmps51
    go_wp2
    go_ret
    exact ⟨ret_bool E.out.symm, rfl⟩

end Go.Proofs.Ytmmogpbbehgkiaa
