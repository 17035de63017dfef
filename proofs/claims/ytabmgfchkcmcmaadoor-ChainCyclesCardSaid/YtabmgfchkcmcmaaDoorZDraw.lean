/- walk.Draw, of the program and of the document. Conditions: at most 1000 numbers, of 10^6 bytes each. -/
import Derived.Test.YtabmgfchkcmcmaaDoorZChW
set_option linter.unusedVariables false
set_option linter.unusedSimpArgs false
namespace Go.Proofs.YtabmgfchkcmcmaaDoor
open Go Go.RowKit
theorem Frs.take {k : Nat} {xs : List FV} {l : List Rat} (h : Frs k xs l) (n : Nat) : Frs k (xs.take n) (l.take n) := ⟨by simp [h.len], fun i q hq => by
  rw [List.getElem?_take] at hq ⊢
  split at hq
  · rename_i hi
    rw [if_pos hi]; exact h.get i q hq
  · cases hq⟩
end Go.Proofs.YtabmgfchkcmcmaaDoor
