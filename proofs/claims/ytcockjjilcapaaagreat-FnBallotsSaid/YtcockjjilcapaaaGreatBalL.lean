/-
  YtcockjjilcapaaaGreatBalL: ballots: LeadingChoice, both sides. (Printed by wip/gen/ball.py.)
-/
import Derived.Test.YtcockjjilcapaaaGreatBalK
import Derived.Test.YtcockjjilcapaaaGreatLeadM
namespace Go.Proofs.YtcockjjilcapaaaGreat
open Go Go.RowKit Go.Sort
set_option linter.unusedVariables false

def leaS (l : List BA) (r : List Int) : LS := ldTo (couL l r) (couL l r).length
def leaB (l : List BA) (r : List Int) : Bool := !(leaS l r).tied
def leaC (l : List BA) (r : List Int) : ByteArray := if (leaS l r).tied then ⟨#[]⟩ else (leaS l r).best
def leaN (l : List BA) (r : List Int) : Int := if (leaS l r).tied then 0 else (leaS l r).most
theorem ret_sib {a a' : ByteArray} {b b' : Int} {x x' : Bool} (h1 : a = a') (h2 : b = b') (h3 : x = x') : Ending.returned (.tuple #[.string a, .int .i64 b, .bool x]) = .returned (.tuple #[.string a', .int .i64 b', .bool x']) := by rw [h1, h2, h3]
theorem lea_no {l : List BA} {r : List Int} (h : pollB l r = false) : leaB l r = false ∧ leaC l r = ⟨#[]⟩ ∧ leaN l r = 0 := by
  have : leaS l r = ⟨⟨#[]⟩, 0, true⟩ := by unfold leaS; rw [couL_no h]; rfl
  simp [leaB, leaC, leaN, this]
/-- The places of the greatest. -/
def winF (cs : List Int) (i : Nat) (x : Int) : Option Int := if x = Lib.maxOf cs then some (i : Int) else none
def wins (cs : List Int) : List Int := fm (winF cs) cs cs.length
theorem wins_len (cs : List Int) : (wins cs).length ≤ cs.length := fm_len _ _ _


end Go.Proofs.YtcockjjilcapaaaGreat
