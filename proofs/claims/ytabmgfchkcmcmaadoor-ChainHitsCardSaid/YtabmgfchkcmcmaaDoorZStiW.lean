/- What stands still within a closed class: walked. Conditions: numbers of 10^4 bytes each. -/
import Derived.Test.YtabmgfchkcmcmaaDoorZClaW
set_option linter.unusedVariables false
set_option linter.unusedSimpArgs false
namespace Go.Proofs.YtabmgfchkcmcmaaDoor
open Go Go.RowKit
def lastP (m : List (List Rat)) : Nat := ((List.range m.length).find? fun i => (shutL m.length (wsh (edg m) m.length) m.length).getD i false).getD 0
def wM (m : List (List Rat)) (l : List Nat) : Mx := fun i k => if i = 0 then 1 else at2 m (l.getD k 0) (l.getD i 0) - (if l.getD k 0 = l.getD i 0 then 1 else 0)
def wTo (m : List (List Rat)) (l : List Nat) (i x : Nat) : List FV := (List.range x).map fun k => fr (wM m l i k)
def wR (m : List (List Rat)) (l : List Nat) (i : Nat) : List Rat := (List.range l.length).map (wM m l i)
def wB (i : Nat) : Rat := if i = 0 then 1 else 0
section
variable {m : List (List Rat)} {l : List Nat} {i x : Nat}
theorem wTo_zero : wTo m l i 0 = [] := rfl
end
attribute [go_sem] wTo_zero
def wSol (m : List (List Rat)) (l : List Nat) : List Rat := solR ((List.range l.length).map (wR m l)) ((List.range l.length).map wB)
end Go.Proofs.YtabmgfchkcmcmaaDoor
