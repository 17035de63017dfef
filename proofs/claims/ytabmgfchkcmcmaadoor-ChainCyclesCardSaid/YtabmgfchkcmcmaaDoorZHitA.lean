/- What chain.Hits calls: states, Contains, ContainsFunc: walked. Conditions: what slices may hold. -/
import Derived.Test.YtabmgfchkcmcmaaDoorZSomW
import Derived.Test.YtabmgfchkcmcmaaDoorZStiW
set_option linter.unusedVariables false
set_option linter.unusedSimpArgs false
namespace Go.Proofs.YtabmgfchkcmcmaaDoor
open Go Go.RowKit
theorem firstI_any {p : Nat → Bool} {n : Nat} : decide (0 ≤ firstI p n) = (List.range n).any p := by
  unfold firstI
  cases h : (List.range n).find? p with
  | none =>
    have : (List.range n).any p = false := by
      rw [List.any_eq_false]
      intro x hx
      exact List.find?_eq_none.1 h x hx
    rw [this]; decide
  | some i =>
    have : (List.range n).any p = true := List.any_eq_true.2 ⟨i, List.mem_of_find?_eq_some h, List.find?_some h⟩
    rw [this]
    exact decide_eq_true (Int.natCast_nonneg _)
end Go.Proofs.YtabmgfchkcmcmaaDoor
