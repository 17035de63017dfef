/- What the types of the laws' arguments stand for. Conditions: none. -/
import Derived.Test.YtabmgfchkcmcmaaDoorYCardAm
import Derived.Test.YtabmgfchkcmcmaaDoorYFrW
set_option linter.unusedVariables false
set_option linter.unusedSimpArgs false
namespace Go.Proofs.YtabmgfchkcmcmaaDoor
open Go Go.RowKit
def OkS (s : ByteArray) : Prop := s.size ≤ 140737488351232
abbrev F3 := Bool × ByteArray × ByteArray
def OkF (x : F3) : Prop := x.2.1.size ≤ 140737488351232 ∧ x.2.2.size ≤ 140737488351232
abbrev frF (x : F3) : FV := frR x.1 x.2.1 x.2.2
theorem oB : Opens Tryd.prog 4 Bo (fun _ => True) := Opens.bool Tryd.underlying4 (by kernel_rfl)
theorem oNat : Opens Tryd.prog 53 St OkS := (Opens.string Tryd.underlying53 (by kernel_rfl)).map fun s h => h
theorem oF3 : Opens Tryd.prog 55 frF OkF := (Opens.struct3 Tryd.underlying55 (by kernel_rfl) oB oNat oNat ⟨rfl, rfl, rfl, rfl, rfl, rfl, by kernel_rfl, by kernel_rfl, by kernel_rfl⟩ ⟨fun _ => rfl, fun _ => rfl, fun _ => rfl⟩).map fun x h => ⟨h.2.1, h.2.2⟩
end Go.Proofs.YtabmgfchkcmcmaaDoor
