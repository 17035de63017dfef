/- What the types of the laws' arguments stand for. Conditions: none. -/
import Derived.Test.YtabmgfchkcmcmaaDoorZCardAm
import Derived.Test.YtabmgfchkcmcmaaDoorZFrW
set_option linter.unusedVariables false
set_option linter.unusedSimpArgs false
namespace Go.Proofs.YtabmgfchkcmcmaaDoor
open Go Go.RowKit
def OkI (n : Int) : Prop := -9223372036854775808 ≤ n ∧ n ≤ 9223372036854775807
def OkIs (l : List Int) : Prop := l.length ≤ 140737488355328 ∧ ∀ x ∈ l, OkI x
abbrev F3 := Bool × ByteArray × ByteArray
theorem reach_8 {n m : Nat} (h : n * m ≤ reachBytes) (hm : 0 < m) : n ≤ 140737488351232 := by
  have e : reachBytes = 140737488351232 := by decide
  rw [e] at h
  exact Nat.le_trans (Nat.le_mul_of_pos_right n hm) h
theorem oI : Opens Tryd.prog 3 I OkI := (Opens.int Tryd.underlying3 (by kernel_rfl)).map fun n h => Go.bounds_i64 h
theorem oB : Opens Tryd.prog 4 Bo (fun _ => True) := Opens.bool Tryd.underlying4 (by kernel_rfl)
theorem oIs : Opens Tryd.prog 23 ints OkIs := (oI.slice Tryd.underlying23 (by kernel_rfl) (by decide) (by kernel_rfl)).map fun l h => ⟨Nat.le_trans (reach_8 h.1 (by decide +kernel)) (by decide), h.2⟩
end Go.Proofs.YtabmgfchkcmcmaaDoor
