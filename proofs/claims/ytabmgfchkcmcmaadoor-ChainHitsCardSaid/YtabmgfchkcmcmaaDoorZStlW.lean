/- chain.Still: walked. Conditions: numbers of 10^4 bytes each. -/
import Derived.Test.YtabmgfchkcmcmaaDoorZStiW
set_option linter.unusedVariables false
set_option linter.unusedSimpArgs false
namespace Go.Proofs.YtabmgfchkcmcmaaDoor
open Go Go.RowKit
def stF (l : List Nat) (sol : List Rat) : Nat → Nat → Rat
  | 0, _ => 0
  | x + 1, k => if k = l.getD x 0 then sol.getD x 0 else stF l sol x k
def stL (n : Nat) (l : List Nat) (sol : List Rat) (x : Nat) : List FV := (List.range n).map fun k => fr (stF l sol x k)
section
variable {n x : Nat} {l : List Nat} {sol : List Rat}
end
end Go.Proofs.YtabmgfchkcmcmaaDoor
