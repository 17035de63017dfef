/- What stands still, in plain Lean: the equations within a class, the row for all states. Conditions: none. -/
import Derived.Test.YtabmgfchkcmcmaaDoorZStlW
import Derived.Test.YtabmgfchkcmcmaaDoorZStaL
set_option linter.unusedVariables false
set_option linter.unusedSimpArgs false
namespace Go.Proofs.YtabmgfchkcmcmaaDoor
open Go Go.RowKit
def inQ (m : List (List Rat)) (l : List Nat) : Mx := fun a c => at2 m (l.getD a 0) (l.getD c 0)
section
variable {m : List (List Rat)} {l : List Nat} {L : Nat}
end
theorem sumTo_F (l : List Rat) : ∀ i, sumTo l i = sumF (fun k => l.getD k 0) i := by
  intro i
  induction i with
  | zero => rfl
  | succ i ih => show sumTo l i + _ = sumF _ i + _; rw [ih]
theorem sto_of {m : List (List Rat)} {n : Nat} (hn : n = m.length) (hsq : ∀ r ∈ m, r.length = n) (hc : ∀ r ∈ m, chancesB r = true) : Sto n (at2 m) where
  nonneg i k hi hk := by
    have hr := List.getElem_mem (l := m) (n := i) (by omega)
    have h := (of_decide_eq_true (hc _ hr)).1
    unfold at2
    rw [lget_lt m [] (by omega), lget_lt _ 0 (by rw [hsq _ hr]; exact hk)]
    exact h _ (List.getElem_mem _)
  sum i hi := by
    have hr := List.getElem_mem (l := m) (n := i) (by omega)
    have h := (of_decide_eq_true (hc _ hr)).2
    rw [← h]
    unfold sumR
    rw [sumTo_F, hsq _ hr]
    exact sumF_congr fun k _ => by unfold at2; rw [lget_lt m [] (by omega)]
end Go.Proofs.YtabmgfchkcmcmaaDoor
