/- The abstract machine, more: short lists that are built. Conditions: none. -/
import Derived.Test.YtabmgfchkcmcmaaDoorAmO
set_option linter.unusedVariables false
set_option linter.unusedSimpArgs false
namespace Go.Proofs.YtabmgfchkcmcmaaDoor
open Go Go.RowKit
theorem rep_two {α : Type} (x : α) : List.replicate 2 x = [x, x] := (rfl)
theorem rep_three {α : Type} (x : α) : List.replicate 3 x = [x, x, x] := (rfl)
theorem rep_four {α : Type} (x : α) : List.replicate 4 x = [x, x, x, x] := (rfl)
theorem rep_five {α : Type} (x : α) : List.replicate 5 x = [x, x, x, x, x] := (rfl)
theorem opt_ex {α : Type} {a : α} {p : α → Prop} : (∃ e, some a = some e ∧ p e) = p a := propext ⟨fun ⟨e, h, hp⟩ => by cases h; exact hp, fun h => ⟨a, rfl, h⟩⟩
attribute [go_sem] rep_two rep_three rep_four rep_five opt_ex
end Go.Proofs.YtabmgfchkcmcmaaDoor
