/- What the types of the laws' arguments stand for. Conditions: none. -/
import Derived.Test.YtabmgfchkcmcmaaDoorCardAm
import Derived.Test.YtabmgfchkcmcmaaDoorFrW
set_option linter.unusedVariables false
set_option linter.unusedSimpArgs false
namespace Go.Proofs.YtabmgfchkcmcmaaDoor
open Go Go.RowKit
def OkI (n : Int) : Prop := -9223372036854775808 ≤ n ∧ n ≤ 9223372036854775807
def OkIs (l : List Int) : Prop := l.length ≤ 140737488355328 ∧ ∀ x ∈ l, OkI x
def OkS (s : ByteArray) : Prop := s.size ≤ 140737488351232
abbrev F3 := Bool × ByteArray × ByteArray
def OkF (x : F3) : Prop := x.2.1.size ≤ 140737488351232 ∧ x.2.2.size ≤ 140737488351232
def OkFs (l : List F3) : Prop := l.length ≤ 140737488355328 ∧ ∀ x ∈ l, OkF x
abbrev frF (x : F3) : FV := frR x.1 x.2.1 x.2.2
theorem reach_8 {n m : Nat} (h : n * m ≤ reachBytes) (hm : 0 < m) : n ≤ 140737488351232 := by
  have e : reachBytes = 140737488351232 := by decide
  rw [e] at h
  exact Nat.le_trans (Nat.le_mul_of_pos_right n hm) h
theorem oI : Opens Tryd.prog 3 I OkI := (Opens.int Tryd.underlying3 (by kernel_rfl)).map fun n h => Go.bounds_i64 h
theorem oB : Opens Tryd.prog 4 Bo (fun _ => True) := Opens.bool Tryd.underlying4 (by kernel_rfl)
theorem oNat : Opens Tryd.prog 53 St OkS := (Opens.string Tryd.underlying53 (by kernel_rfl)).map fun s h => h
theorem oIs : Opens Tryd.prog 23 ints OkIs := (oI.slice Tryd.underlying23 (by kernel_rfl) (by decide) (by kernel_rfl)).map fun l h => ⟨Nat.le_trans (reach_8 h.1 (by decide +kernel)) (by decide), h.2⟩
theorem oF3 : Opens Tryd.prog 55 frF OkF := (Opens.struct3 Tryd.underlying55 (by kernel_rfl) oB oNat oNat ⟨rfl, rfl, rfl, rfl, rfl, rfl, by kernel_rfl, by kernel_rfl, by kernel_rfl⟩ ⟨fun _ => rfl, fun _ => rfl, fun _ => rfl⟩).map fun x h => ⟨h.2.1, h.2.2⟩
theorem oFs : Opens Tryd.prog 49 (fun l : List F3 => .fz 3 (l.map frF)) OkFs := (oF3.slice Tryd.underlying49 (by kernel_rfl) (by decide) (by kernel_rfl)).map fun l h => ⟨Nat.le_trans (reach_8 h.1 (by decide +kernel)) (by decide), h.2⟩
theorem oFss : Opens Tryd.prog 61 (fun l : List (List F3) => .fz 1 (l.map fun r => .fz 3 (r.map frF))) (fun l => l.length ≤ 140737488355328 ∧ ∀ r ∈ l, OkFs r) := (oFs.slice Tryd.underlying61 (by kernel_rfl) (by decide) (by kernel_rfl)).map fun l h => ⟨Nat.le_trans (reach_8 h.1 (by decide +kernel)) (by decide), h.2⟩
theorem oIss : Opens Tryd.prog 22 (fun l : List (List Int) => .fz 1 (l.map ints)) (fun l => l.length ≤ 140737488355328 ∧ ∀ r ∈ l, OkIs r) := (oIs.slice Tryd.underlying22 (by kernel_rfl) (by decide) (by kernel_rfl)).map fun l h => ⟨Nat.le_trans (reach_8 h.1 (by decide +kernel)) (by decide), h.2⟩
end Go.Proofs.YtabmgfchkcmcmaaDoor
