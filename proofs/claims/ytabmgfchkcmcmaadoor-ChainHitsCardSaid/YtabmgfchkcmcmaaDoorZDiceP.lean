/- Dice, in plain Lean: how many of so many draw each value. No program in sight. Conditions: none. -/
import Derived.Test.YtabmgfchkcmcmaaDoorZDraw
import Derived.Test.YtabmgfchkcmcmaaDoorZRoB
set_option linter.unusedVariables false
set_option linter.unusedSimpArgs false
namespace Go.Proofs.YtabmgfchkcmcmaaDoor
open Go Go.RowKit
abbrev qN (n : Nat) : Rat := ((n : Int) : Rat)
theorem qN_add (a b : Nat) : qN (a + b) = qN a + qN b := by unfold qN; rw [Int.natCast_add, Rat.intCast_add]
def denTo (l : List Rat) (t : Nat) : Nat → Nat
  | 0 => t
  | i + 1 => denTo l t i * (l.getD i 0).den
def cnt (s : Nat → Nat) (k j : Nat) : Nat := min k (s (j + 1)) - min k (s j)
def cnts (s : Nat → Nat) (n k : Nat) : List Nat := (List.range n).map (cnt s k)
end Go.Proofs.YtabmgfchkcmcmaaDoor
