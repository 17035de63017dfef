/- What is still, in plain Lean: within a closed class there is just one such, and it is above 0 everywhere. No program in sight. Conditions: none. -/
import Derived.Test.YtabmgfchkcmcmaaDoorZReaL
set_option linter.unusedVariables false
set_option linter.unusedSimpArgs false
namespace Go.Proofs.YtabmgfchkcmcmaaDoor
open Go Go.RowKit
def posE (Q : Mx) : Bx := fun i j => decide (0 < Q i j)
structure Irr (L : Nat) (Q : Mx) : Prop where
  nonneg : ∀ i k, 0 ≤ Q i k
  sum : ∀ i, i < L → sumF (Q i) L = 1
  con : ∀ i k, i < L → k < L → Star L (posE Q) i k
def Stat (L : Nat) (Q : Mx) (y : Nat → Rat) : Prop := ∀ k, k < L → sumF (fun i => y i * Q i k) L = y k
section
variable {L : Nat} {Q : Mx} {y p : Nat → Rat} {f g : Nat → Rat} {n : Nat}
theorem sumF_ge {i : Nat} (h : ∀ k, k < n → 0 ≤ f k) (hi : i < n) : f i ≤ sumF f n := by
  induction n with
  | zero => omega
  | succ n ih =>
    show f i ≤ sumF f n + f n
    by_cases e : i = n
    · subst e
      have := sumF_nonneg fun k hk => h k (Nat.lt_succ_of_lt hk)
      grind
    · have h1 := ih (fun k hk => h k (by omega)) (by omega)
      have h2 := h n (by omega)
      grind
theorem sumF_zero_each (h : ∀ k, k < n → 0 ≤ f k) (h0 : sumF f n = 0) : ∀ k, k < n → f k = 0 := fun k hk => by
  have h1 := sumF_ge h hk
  rw [h0] at h1
  exact Rat.le_antisymm h1 (h k hk)
theorem sumF_neg : sumF (fun k => - f k) n = - sumF f n := by
  induction n with
  | zero => show (0 : Rat) = -0; grind
  | succ n ih => show sumF _ n + - f n = -(sumF f n + f n); rw [ih]; grind
def ppos (y : Nat → Rat) (i : Nat) : Rat := if 0 < y i then y i else 0
def stM (L : Nat) (Q : Mx) : Mx := fun k i => if i = L then (if k = 0 then 1 else 0) else if k = 0 then 1 else Q i k - (if i = k then 1 else 0)
end
end Go.Proofs.YtabmgfchkcmcmaaDoor
