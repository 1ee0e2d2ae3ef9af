/-
  YtcockjjilcapaaaGreatDoorVee: the great laws' own helpers: too great a code; equal lists are told equal. (Printed by wip/gen/vee.py.)
-/
import Derived.Test.YtcockjjilcapaaaGreatDoorHelp
import Derived.BigQuiet
import Derived.Deep.QuietTactic
namespace Go.Proofs.YtcockjjilcapaaaGreatDoor
open Go Go.RowKit Go.Sort
set_option linter.unusedVariables false

theorem vBig_any (A : Option Addr) (n c : Nat) (w : World) (hn : n ≤ 9223372036854775807) : Calls Tryz.prog 4 #[.slice A n c] w fun e w' => e = .returned (.bool (decide ((65536 : Int) < (n : Int)))) ∧ w = w' := by
  go_enter Tryz.func4, Tryz.ntmps4
  go_wp2
  go_ret
  exact ⟨ret_bool (by first | rfl | simp), rfl⟩


end Go.Proofs.YtcockjjilcapaaaGreatDoor
