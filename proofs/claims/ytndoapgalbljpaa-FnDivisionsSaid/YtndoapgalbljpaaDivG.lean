/-
  YtndoapgalbljpaaDivG: clauses: which stand, the reference's side; StandingClauses and FallenClauses, both sides. (Printed by wip/gen/divg.py.)
-/
import Derived.Test.YtndoapgalbljpaaDivF
namespace Go.Proofs.Ytndoapgalbljpaa
open Go Go.RowKit Go.Sort
set_option linter.unusedVariables false

def votB (l : List CL) (ad : List Bool) : Bool := clsB l && decide (ad.length = l.length)
def staL (l : List CL) (ad : List Bool) : List Int := if votB l ad then chs (stB l ad) else []
theorem staL_no {l : List CL} {ad : List Bool} (h : votB l ad = false) : staL l ad = [] := by simp [staL, h]
theorem staL_yes {l : List CL} {ad : List Bool} (h : votB l ad = true) : staL l ad = chs (stB l ad) := by simp [staL, h]
theorem stB_len (l : List CL) (ad : List Bool) : (stB l ad).length = l.length := stTo_len _ _ _
theorem staL_len (l : List CL) (ad : List Bool) : (staL l ad).length ≤ l.length := by
  unfold staL; split
  · exact Nat.le_trans (chs_len _) (Nat.le_of_eq (stB_len _ _))
  · simp
/-- Whether a clause is adopted and does not stand. -/
def falP (l : List CL) (ad : List Bool) (m : Nat) : Bool := ad.getD m false && !(stB l ad).getD m false
def falL (l : List CL) (ad : List Bool) : List Int := if votB l ad then chP l.length (falP l ad) else []
theorem falL_no {l : List CL} {ad : List Bool} (h : votB l ad = false) : falL l ad = [] := by simp [falL, h]
theorem falL_yes {l : List CL} {ad : List Bool} (h : votB l ad = true) : falL l ad = chP l.length (falP l ad) := by simp [falL, h]
theorem falL_len (l : List CL) (ad : List Bool) : (falL l ad).length ≤ l.length := by
  unfold falL; split
  · exact chP_len _ _
  · simp
def falT (l : List CL) (ad : List Bool) (t : Nat) : List Bool := (List.range l.length).map (fun m => if m < t then falP l ad m else (stB l ad).getD m false)
theorem falT_start (l : List CL) (ad : List Bool) : falT l ad 0 = stB l ad := by
  apply List.ext_getElem?
  intro m
  by_cases h : m < l.length
  · unfold falT
    rw [map_get h]
    simp [List.getD, List.getElem?_eq_getElem (show m < (stB l ad).length by rw [stB_len]; exact h)]
  · rw [List.getElem?_eq_none (by simp [falT]; omega), List.getElem?_eq_none (by rw [stB_len]; omega)]
theorem falT_next {l : List CL} {ad : List Bool} {t : Nat} : (falT l ad t).set t (falP l ad t) = falT l ad (t + 1) := by
  have := map_set (n := l.length) (f := fun m => if m < t then falP l ad m else (stB l ad).getD m false) (g := fun m => if m < t + 1 then falP l ad m else (stB l ad).getD m false) (t := t) (fun m hm => by
    rcases Nat.lt_or_ge m t with h | h
    · simp [h, show m < t + 1 by omega]
    · simp [show ¬ m < t by omega, show ¬ m < t + 1 by omega])
  simp only [Nat.lt_succ_self, if_true] at this
  exact this
theorem falT_get {l : List CL} {ad : List Bool} {t : Nat} (h : t < l.length) : (falT l ad t)[t]? = some ((stB l ad).getD t false) := by
  unfold falT; rw [map_get h]; simp
theorem falT_end {l : List CL} {ad : List Bool} : chs (falT l ad l.length) = chP l.length (falP l ad) := by
  unfold falT chP
  congr 1
  apply List.map_congr_left
  intro m hm
  rw [if_pos (List.mem_range.1 hm)]


set_option maxRecDepth 100000 in
theorem isVote_any (A : Option Addr) (n c : Nat) (hs : List HC) (l : List CL) (Aa : Option Addr) (na ca : Nat) (ad : List Bool) (w : World) (ha : RdC w A n c hs l) (hb : Rd boV 1 w Aa na ca ad) (hg : ∀ x ∈ l, ClSz x) :
    Calls Try.prog 49 #[.slice A n c, .slice Aa na ca] w fun e w' => e = .returned (.bool (votB l ad)) ∧ Below w.heap.size w w' := by
  have HL := Lib.hid ha.len
  have HA := Lib.hid hb.len
  have hm := ha.le
  have hm2 := hb.le
  go_enter Try.func49, Try.ntmps49
  go_wp2_with fail
  refine (AreClauses_any _ _ _ _ _ _ ha hg).mono ?_
  rintro e w1 ⟨rfl, b1⟩
  cases h1 : clsB l
  · have E := Lib.hid (show votB l ad = false by unfold votB; rw [h1]; rfl)
    clear ha hb h1
    go_wp2
    go_ret
    exact ⟨ret_bool E.out.symm, b1⟩
  · have E := Lib.hid (show votB l ad = decide ((na : Int) = (n : Int)) by unfold votB; rw [h1, HA.out, HL.out, Bool.true_and]; congr 1; simp; omega)
    clear ha hb h1
    go_wp2
    go_ret
    exact ⟨ret_bool (by rw [E.out]; first | rfl | simp), b1⟩


end Go.Proofs.Ytndoapgalbljpaa
