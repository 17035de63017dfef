/- Dice, in plain Lean: how many of so many draw each value. No program in sight. Conditions: none. -/
import Derived.Test.YtabmgfchkcmcmaaDoorZDraw
import Derived.Test.YtabmgfchkcmcmaaDoorZRoB
set_option linter.unusedVariables false
set_option linter.unusedSimpArgs false
namespace Go.Proofs.YtabmgfchkcmcmaaDoor
open Go Go.RowKit
abbrev qN (n : Nat) : Rat := ((n : Int) : Rat)
theorem qN_add (a b : Nat) : qN (a + b) = qN a + qN b := by unfold qN; rw [Int.natCast_add, Rat.intCast_add]
end Go.Proofs.YtabmgfchkcmcmaaDoor
