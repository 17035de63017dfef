/- Rows of rows multiplied, in plain Lean. No program in sight. Conditions: none. -/
import Derived.Test.YtabmgfchkcmcmaaDoorZStaL
set_option linter.unusedVariables false
set_option linter.unusedSimpArgs false
namespace Go.Proofs.YtabmgfchkcmcmaaDoor
open Go Go.RowKit
def mulM (n : Nat) (A B : Mx) : Mx := fun i k => sumF (fun j => A i j * B j k) n
def idM : Mx := fun i k => if i = k then 1 else 0
def powM (n : Nat) (A : Mx) : Nat → Mx
  | 0 => idM
  | k + 1 => mulM n (powM n A k) A
def EqM (n : Nat) (A B : Mx) : Prop := ∀ i k, i < n → k < n → A i k = B i k
def mxL (n : Nat) (M : Mx) : List (List Rat) := (List.range n).map fun i => (List.range n).map (M i)
structure Sto (n : Nat) (A : Mx) : Prop where
  nonneg : ∀ i k, i < n → k < n → 0 ≤ A i k
  sum : ∀ i, i < n → sumF (A i) n = 1
section
variable {n a b : Nat} {A B C D : Mx} {y : Nat → Rat}
theorem EqM.symm (h : EqM n A B) : EqM n B A := fun i k hi hk => (h i k hi hk).symm
theorem EqM.trans (h : EqM n A B) (h' : EqM n B C) : EqM n A C := fun i k hi hk => (h i k hi hk).trans (h' i k hi hk)
theorem mul_congr (h : EqM n A B) (h' : EqM n C D) : EqM n (mulM n A C) (mulM n B D) := fun i k hi hk => sumF_congr fun j hj => by rw [h i j hi hj, h' j k hj hk]
theorem mul_id : EqM n (mulM n A idM) A := fun i k hi hk => by
  show sumF (fun j => A i j * idM j k) n = _
  rw [sumF_single (i := k) (fun j _ hne => by unfold idM; rw [if_neg hne, Rat.mul_zero]) hk]
  unfold idM; rw [if_pos rfl, Rat.mul_one]
theorem mul_assoc' : mulM n (mulM n A B) C = mulM n A (mulM n B C) := by
  funext i k
  show sumF (fun j => sumF (fun l => A i l * B l j) n * C j k) n = sumF (fun l => A i l * sumF (fun j => B l j * C j k) n) n
  have e1 : sumF (fun j => sumF (fun l => A i l * B l j) n * C j k) n = sumF (fun j => sumF (fun l => A i l * B l j * C j k) n) n := sumF_congr fun j _ => by rw [sumF_mulr]
  rw [e1, sumF_swap]
  refine sumF_congr fun l _ => ?_
  rw [sumF_mul]
  exact sumF_congr fun j _ => by rw [Rat.mul_assoc]
theorem pow_add : ∀ b, EqM n (powM n A (a + b)) (mulM n (powM n A a) (powM n A b)) := by
  intro b
  induction b with
  | zero => exact (mul_id (A := powM n A a)).symm
  | succ b ih =>
    show EqM n (mulM n (powM n A (a + b)) A) (mulM n (powM n A a) (mulM n (powM n A b) A))
    rw [← mul_assoc']
    exact mul_congr ih fun _ _ _ _ => rfl
theorem mxL_len : (mxL n A).length = n := by simp [mxL]
theorem mxL_row (r : List Rat) (h : r ∈ mxL n A) : r.length = n := by obtain ⟨i, _, rfl⟩ := List.mem_map.1 h; simp
theorem mxL_get {i : Nat} (hi : i < n) : (mxL n A)[i]? = some ((List.range n).map (A i)) := by simp [mxL, hi]
theorem mxL_of {m : List (List Rat)} (h : ∀ r ∈ m, r.length = m.length) : m = mxL m.length (at2 m) := by
  apply List.ext_getElem?
  intro i
  by_cases hi : i < m.length
  · rw [mxL_get hi, List.getElem?_eq_getElem hi]
    congr 1
    have hr := h _ (List.getElem_mem hi)
    apply List.ext_getElem?
    intro k
    by_cases hk : k < m.length
    · rw [List.getElem?_eq_getElem (by rw [hr]; exact hk)]
      simp [hk, at2, List.getD, hi]
      rw [List.getElem?_eq_getElem (by rw [hr]; exact hk)]; rfl
    · rw [List.getElem?_eq_none (by rw [hr]; omega), List.getElem?_eq_none (by simp; omega)]
  · rw [List.getElem?_eq_none (by omega), List.getElem?_eq_none (by rw [mxL_len]; omega)]
end
end Go.Proofs.YtabmgfchkcmcmaaDoor
