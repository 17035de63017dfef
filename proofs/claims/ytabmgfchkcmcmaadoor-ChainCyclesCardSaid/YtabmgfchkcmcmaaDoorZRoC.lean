/- Rows of raw weights are chances. No program in sight. Conditions: none. -/
import Derived.Test.YtabmgfchkcmcmaaDoorZDiceP
set_option linter.unusedVariables false
set_option linter.unusedSimpArgs false
namespace Go.Proofs.YtabmgfchkcmcmaaDoor
open Go Go.RowKit
theorem qN_nonneg (n : Nat) : 0 ≤ qN n := by unfold qN; exact Rat.intCast_nonneg.2 (by omega)
theorem qN_pos {n : Nat} (h : 0 < n) : 0 < qN n := by unfold qN; exact Rat.intCast_pos.2 (by omega)
theorem qN_mk (a b : Nat) : qN a / qN b = mkRat (a : Int) b := by rw [Rat.mkRat_eq_div]; rfl
theorem sumTo_div (L : List Nat) (S : Rat) (i : Nat) (h : i ≤ L.length) : sumTo (L.map fun x : Nat => qN x / S) i = qN (L.take i).sum / S := by
  induction i with
  | zero => show 0 = _; rw [Rat.div_def]; simp [qN]
  | succ i ih =>
    show sumTo _ i + (L.map _).getD i 0 = _
    rw [ih (by omega), lget_lt _ 0 (by simp; omega), List.getElem_map, List.take_add_one, List.getElem?_eq_getElem (by omega), List.sum_append]
    simp only [Option.toList_some, List.sum_cons, List.sum_nil, Nat.add_zero]
    rw [qN_add, Rat.div_def, Rat.div_def, Rat.div_def, Rat.add_mul]
section
variable (w : List Int) (k n : Nat)
theorem rowOf_eq : rowOf w k n = (rowM w k n).map fun x : Nat => qN x / qN (rowS w k n) := rfl
theorem rowOf_nonneg : ∀ q ∈ rowOf w k n, 0 ≤ q := fun q hq => by
  obtain ⟨x, _, rfl⟩ := List.mem_map.1 hq
  exact Rat.mul_nonneg (qN_nonneg x) (Rat.le_of_lt (Rat.inv_pos.2 (qN_pos (rowS_pos w k n))))
theorem rowOf_sum (h : 1 ≤ n) : sumR (rowOf w k n) = 1 := by
  unfold sumR
  rw [rowOf_eq, sumTo_div _ _ _ (by simp), List.take_of_length_le (by simp), rowM_sum w k n h, Rat.div_def]
  exact Rat.mul_inv_cancel _ (fun e => by have := qN_pos (rowS_pos w k n); rw [e] at this; exact Rat.lt_irrefl this)
theorem rowOf_chances (h : 1 ≤ n) : chancesB (rowOf w k n) = true := decide_eq_true ⟨rowOf_nonneg w k n, rowOf_sum w k n h⟩
theorem rowOf_row (h : 1 ≤ n) (hn : n ≤ 1000) : Row 8 (rowOf w k n) := fun q hq => by
  obtain ⟨x, hx, rfl⟩ := List.mem_map.1 hq
  show Fz (qN x / qN (rowS w k n)) 8
  rw [qN_mk]
  have h1 := rowM_lt w k n x hx
  have h2 := rowS_le w k n h
  have e : (256 : Nat) ^ 8 = 18446744073709551616 := by decide
  exact Fz.mk (by rw [e]; omega) (by rw [e]; omega) (by omega)
end
end Go.Proofs.YtabmgfchkcmcmaaDoor
