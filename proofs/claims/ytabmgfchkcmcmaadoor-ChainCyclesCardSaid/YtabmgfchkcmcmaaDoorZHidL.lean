/- Hidden chains, in plain Lean: what is behind and ahead make the same at each step; no way is likelier than the path. No program in sight. Conditions: none. -/
import Derived.Test.YtabmgfchkcmcmaaDoorZFill
set_option linter.unusedVariables false
set_option linter.unusedSimpArgs false
namespace Go.Proofs.YtabmgfchkcmcmaaDoor
open Go Go.RowKit
def sumF (f : Nat → Rat) : Nat → Rat
  | 0 => 0
  | n + 1 => sumF f n + f n
def grt (a b : Rat) : Rat := if a < b then b else a
def maxF (f : Nat → Rat) : Nat → Rat
  | 0 => 0
  | n + 1 => grt (maxF f n) (f n)
section
variable {f g : Nat → Rat} {n m : Nat}
theorem sumF_congr (h : ∀ k, k < n → f k = g k) : sumF f n = sumF g n := by
  induction n with
  | zero => rfl
  | succ n ih => show sumF f n + f n = sumF g n + g n; rw [ih fun k hk => h k (by omega), h n (by omega)]
theorem sumF_zero : sumF (fun _ => 0) n = 0 := by
  induction n with
  | zero => rfl
  | succ n ih => show sumF _ n + 0 = 0; rw [ih, Rat.add_zero]
theorem sumF_add : sumF (fun k => f k + g k) n = sumF f n + sumF g n := by
  induction n with
  | zero => exact (Rat.add_zero 0).symm
  | succ n ih => show sumF _ n + (f n + g n) = (sumF f n + f n) + (sumF g n + g n); rw [ih]; grind
theorem sumF_mul (c : Rat) : c * sumF f n = sumF (fun k => c * f k) n := by
  induction n with
  | zero => exact Rat.mul_zero c
  | succ n ih => show c * (sumF f n + f n) = sumF _ n + c * f n; rw [Rat.mul_add, ih]
theorem sumF_mulr (c : Rat) : sumF f n * c = sumF (fun k => f k * c) n := by rw [Rat.mul_comm, sumF_mul]; exact sumF_congr fun k _ => Rat.mul_comm _ _
theorem sumF_swap {h : Nat → Nat → Rat} : sumF (fun i => sumF (fun k => h i k) m) n = sumF (fun k => sumF (fun i => h i k) n) m := by
  induction n with
  | zero => exact sumF_zero.symm
  | succ n ih => show sumF _ n + sumF _ m = _; rw [ih, ← sumF_add]; rfl
theorem sumF_nonneg (h : ∀ k, k < n → 0 ≤ f k) : 0 ≤ sumF f n := by
  induction n with
  | zero => exact Rat.le_refl
  | succ n ih => exact Rat.add_nonneg (ih fun k hk => h k (by omega)) (h n (by omega))
theorem sumF_le (h : ∀ k, k < n → f k ≤ g k) : sumF f n ≤ sumF g n := by
  induction n with
  | zero => exact Rat.le_refl
  | succ n ih =>
    have h1 := ih fun k hk => h k (by omega)
    have h2 := h n (by omega)
    show sumF f n + f n ≤ sumF g n + g n
    grind
theorem sumF_eq_zero (h : ∀ k, k < n → f k = 0) : sumF f n = 0 := by rw [sumF_congr h]; exact sumF_zero
end
structure HM where
  n : Nat
  a : Nat → Rat
  mv : Nat → Nat → Rat
  sh : Nat → Nat → Rat
  s : Nat → Nat
  T : Nat
structure HM.Ok (h : HM) : Prop where
  a : ∀ i, 0 ≤ h.a i
  mv : ∀ i k, 0 ≤ h.mv i k
  sh : ∀ i k, 0 ≤ h.sh i k
def HM.fw (h : HM) : Nat → Nat → Rat
  | 0, i => h.a i * h.sh i (h.s 0)
  | t + 1, i => sumF (fun k => HM.fw h t k * h.mv k i) h.n * h.sh i (h.s (t + 1))
def HM.bwU (h : HM) : Nat → Nat → Rat
  | 0, i => 1
  | u + 1, i => sumF (fun k => h.mv i k * h.sh k (h.s (h.T - 1 - u)) * HM.bwU h u k) h.n
def HM.mxU (h : HM) : Nat → Nat → Rat
  | 0, i => 1
  | u + 1, i => maxF (fun k => h.mv i k * h.sh k (h.s (h.T - 1 - u)) * HM.mxU h u k) h.n
def HM.bw (h : HM) (t i : Nat) : Rat := h.bwU (h.T - 1 - t) i
def HM.mx (h : HM) (t i : Nat) : Rat := h.mxU (h.T - 1 - t) i
section
variable {h : HM} {t i : Nat}
theorem HM.bw_next (ht : t + 1 < h.T) : h.bw t i = sumF (fun k => h.mv i k * h.sh k (h.s (t + 1)) * h.bw (t + 1) k) h.n := by
  unfold HM.bw
  rw [show h.T - 1 - t = (h.T - 1 - (t + 1)) + 1 by omega]
  show sumF _ _ = _
  rw [show h.T - 1 - (h.T - 1 - (t + 1)) = t + 1 by omega]
theorem HM.step (ht : t + 1 < h.T) : sumF (fun i => h.fw t i * h.bw t i) h.n = sumF (fun i => h.fw (t + 1) i * h.bw (t + 1) i) h.n := by
  have e1 : sumF (fun i => h.fw t i * h.bw t i) h.n = sumF (fun i => sumF (fun k => h.fw t i * h.mv i k * h.sh k (h.s (t + 1)) * h.bw (t + 1) k) h.n) h.n :=
    sumF_congr fun i _ => by rw [HM.bw_next ht, sumF_mul]; exact sumF_congr fun k _ => by simp only [Rat.mul_assoc]
  rw [e1, sumF_swap]
  refine sumF_congr fun k _ => ?_
  show _ = sumF (fun i => h.fw t i * h.mv i k) h.n * h.sh k (h.s (t + 1)) * h.bw (t + 1) k
  rw [sumF_mulr, sumF_mulr]
end
end Go.Proofs.YtabmgfchkcmcmaaDoor
