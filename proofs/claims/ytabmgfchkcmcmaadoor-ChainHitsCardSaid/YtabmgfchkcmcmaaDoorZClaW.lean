/- Classes of states, the last of them: walked. Conditions: numbers of 10^6 bytes each. -/
import Derived.Test.YtabmgfchkcmcmaaDoorZSolW
set_option linter.unusedVariables false
set_option linter.unusedSimpArgs false
namespace Go.Proofs.YtabmgfchkcmcmaaDoor
open Go Go.RowKit
def clsK (R : Bx) (i k : Nat) : List Nat := (List.range k).filter fun j => R i j && R j i
def opnK (R : Bx) (i k : Nat) : Bool := (List.range k).any fun j => R i j && !R j i
def repL (n : Nat) (R : Bx) (x : Nat) : List (List Nat) := ((List.range x).filter (isRep n R)).map (cls n R)
def shutL (n : Nat) (R : Bx) (x : Nat) : List Bool := ((List.range x).filter (isRep n R)).map (clo n R)
def Ns (l : List Nat) : List FV := l.map fun k : Nat => I (k : Int)
def repF (n : Nat) (R : Bx) (x : Nat) : List FV := (repL n R x).map fun l => .fz 1 (Ns l)
def shutF (n : Nat) (R : Bx) (x : Nat) : List FV := (shutL n R x).map Bo
section
variable {n i k x : Nat} {R : Bx}
end
end Go.Proofs.YtabmgfchkcmcmaaDoor
