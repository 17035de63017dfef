/- The abstract machine, more: short lists that are built. Conditions: none. -/
import Derived.Test.YtabmgfchkcmcmaaDoorZAmO
set_option linter.unusedVariables false
set_option linter.unusedSimpArgs false
namespace Go.Proofs.YtabmgfchkcmcmaaDoor
open Go Go.RowKit
theorem rep_two {α : Type} (x : α) : List.replicate 2 x = [x, x] := (rfl)
theorem rep_three {α : Type} (x : α) : List.replicate 3 x = [x, x, x] := (rfl)
theorem rep_four {α : Type} (x : α) : List.replicate 4 x = [x, x, x, x] := (rfl)
theorem rep_five {α : Type} (x : α) : List.replicate 5 x = [x, x, x, x, x] := (rfl)
theorem opt_ex {α : Type} {a : α} {p : α → Prop} : (∃ e, some a = some e ∧ p e) = p a := propext ⟨fun ⟨e, h, hp⟩ => by cases h; exact hp, fun h => ⟨a, rfl, h⟩⟩
theorem objLt_fset (N : Nat) (e : TypeId) (sz i : Nat) (l : List FV) (x : FV) : objLt N ⟨e, sz, (l.map AV.f).set i (.f x)⟩ = True := by
  rw [← List.map_set]; exact objLt_f N e sz _
theorem acallQV_f {P : Program} {f : FuncId} {a b : List FV} {xs : List AV} {H : AH} {k : AV → Prop} : acallQV P (.f (.fn f a b)) xs H k = acallQ P f (a.map .f ++ xs ++ b.map .f) H k := (rfl)
theorem acallV_f {P : Program} {f : FuncId} {a b : List FV} {xs : List AV} {s : AS} {d : Option Tmp} {K : AS → Prop} : acallV P (.f (.fn f a b)) xs s d K = acall P f (a.map .f ++ xs ++ b.map .f) s d K := (rfl)
attribute [go_sem] objLt_fset acallQV_f acallV_f
attribute [go_sem] rep_two rep_three rep_four rep_five opt_ex
end Go.Proofs.YtabmgfchkcmcmaaDoor
