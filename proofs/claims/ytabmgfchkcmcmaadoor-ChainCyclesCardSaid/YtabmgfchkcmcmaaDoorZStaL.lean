/- What is still, in plain Lean: within a closed class there is just one such, and it is above 0 everywhere. No program in sight. Conditions: none. -/
import Derived.Test.YtabmgfchkcmcmaaDoorZReaL
set_option linter.unusedVariables false
set_option linter.unusedSimpArgs false
namespace Go.Proofs.YtabmgfchkcmcmaaDoor
open Go Go.RowKit
def posE (Q : Mx) : Bx := fun i j => decide (0 < Q i j)
structure Irr (L : Nat) (Q : Mx) : Prop where
  nonneg : ∀ i k, 0 ≤ Q i k
  sum : ∀ i, i < L → sumF (Q i) L = 1
  con : ∀ i k, i < L → k < L → Star L (posE Q) i k
def Stat (L : Nat) (Q : Mx) (y : Nat → Rat) : Prop := ∀ k, k < L → sumF (fun i => y i * Q i k) L = y k
section
variable {L : Nat} {Q : Mx} {y p : Nat → Rat} {f g : Nat → Rat} {n : Nat}
theorem sumF_ge {i : Nat} (h : ∀ k, k < n → 0 ≤ f k) (hi : i < n) : f i ≤ sumF f n := by
  induction n with
  | zero => omega
  | succ n ih =>
    show f i ≤ sumF f n + f n
    by_cases e : i = n
    · subst e
      have := sumF_nonneg fun k hk => h k (Nat.lt_succ_of_lt hk)
      grind
    · have h1 := ih (fun k hk => h k (by omega)) (by omega)
      have h2 := h n (by omega)
      grind
theorem sumF_zero_each (h : ∀ k, k < n → 0 ≤ f k) (h0 : sumF f n = 0) : ∀ k, k < n → f k = 0 := fun k hk => by
  have h1 := sumF_ge h hk
  rw [h0] at h1
  exact Rat.le_antisymm h1 (h k hk)
theorem sumF_neg : sumF (fun k => - f k) n = - sumF f n := by
  induction n with
  | zero => show (0 : Rat) = -0; grind
  | succ n ih => show sumF _ n + - f n = -(sumF f n + f n); rw [ih]; grind
theorem stat_total (h : Irr L Q) : sumF (fun k => sumF (fun i => y i * Q i k) L) L = sumF y L := by
  rw [sumF_swap (h := fun k i => y i * Q i k)]
  exact sumF_congr fun i hi => by rw [← sumF_mul, h.sum i hi, Rat.mul_one]
theorem stat_pos1 (h : Irr L Q) (hp : ∀ i, 0 ≤ p i) (hs : Stat L Q p) {a : Nat} (ha : 0 < p a) {b : Nat} (hst : Star L (posE Q) a b) (haL : a < L) : 0 < p b := by
  induction hst with
  | refl => exact ha
  | step hst hk he ih =>
    rename_i j k
    have hj := hst.lt haL
    rw [← hs k hk]
    have h1 := sumF_ge (f := fun i => p i * Q i k) (fun i _ => Rat.mul_nonneg (hp i) (h.nonneg i k)) hj
    have h2 : 0 < p j * Q j k := Rat.mul_pos ih (of_decide_eq_true he)
    exact Std.lt_of_lt_of_le h2 h1
def ppos (y : Nat → Rat) (i : Nat) : Rat := if 0 < y i then y i else 0
theorem ppos_nonneg (i : Nat) : 0 ≤ ppos y i := by unfold ppos; split <;> grind
theorem ppos_ge (i : Nat) : y i ≤ ppos y i := by unfold ppos; split <;> grind
theorem stat_ppos (h : Irr L Q) (hs : Stat L Q y) : Stat L Q (ppos y) := by
  have ge : ∀ k, k < L → ppos y k ≤ sumF (fun i => ppos y i * Q i k) L := fun k hk => by
    have h0 : 0 ≤ sumF (fun i => ppos y i * Q i k) L := sumF_nonneg fun i _ => Rat.mul_nonneg (ppos_nonneg i) (h.nonneg i k)
    have h1 : sumF (fun i => y i * Q i k) L ≤ sumF (fun i => ppos y i * Q i k) L := sumF_le fun i _ => Rat.mul_le_mul_of_nonneg_right (ppos_ge i) (h.nonneg i k)
    rw [hs k hk] at h1
    unfold ppos at h0 h1 ⊢
    split
    · exact h1
    · exact h0
  have tot := stat_total (y := ppos y) h
  have hz : sumF (fun k => sumF (fun i => ppos y i * Q i k) L - ppos y k) L = 0 := by rw [sumF_sub, tot]; grind
  intro k hk
  have := sumF_zero_each (f := fun k => sumF (fun i => ppos y i * Q i k) L - ppos y k) (fun k hk => by have := ge k hk; grind) hz k hk
  grind
theorem stat_all_pos (h : Irr L Q) (hs : Stat L Q y) {a : Nat} (haL : a < L) (ha : 0 < y a) : ∀ k, k < L → 0 < y k := fun k hk => by
  have := stat_pos1 h ppos_nonneg (stat_ppos h hs) (a := a) (by unfold ppos; rw [if_pos ha]; exact ha) (h.con a k haL hk) haL
  unfold ppos at this
  split at this
  · assumption
  · exact absurd this (by decide)
theorem stat_zero (h : Irr L Q) (hs : Stat L Q y) (h0 : sumF y L = 0) : ∀ k, k < L → y k = 0 := by
  have hle : ∀ k, k < L → y k ≤ 0 := fun k hk => Rat.not_lt.1 fun hp => by
    have hall := stat_all_pos h hs hk hp
    have := sumF_ge (f := y) (fun i hi => Rat.le_of_lt (hall i hi)) hk
    rw [h0] at this
    exact Rat.not_lt.2 this hp
  have hn : sumF (fun k => - y k) L = 0 := by rw [sumF_neg, h0]; grind
  intro k hk
  have := sumF_zero_each (f := fun k => - y k) (fun k hk => by have := hle k hk; grind) hn k hk
  grind
theorem stat_pos (h : Irr L Q) (hs : Stat L Q y) (h1 : sumF y L = 1) : ∀ k, k < L → 0 < y k := by
  have : ∃ a, a < L ∧ 0 < y a := Classical.byContradiction fun hn => by
    have hle : sumF y L ≤ sumF (fun _ => (0 : Rat)) L := sumF_le fun k hk => Rat.not_lt.1 fun hp => hn ⟨k, hk, hp⟩
    rw [sumF_zero, h1] at hle
    exact absurd hle (by decide)
  obtain ⟨a, haL, ha⟩ := this
  exact stat_all_pos h hs haL ha
theorem stat_unique {x : Nat → Rat} (h : Irr L Q) (hs : Stat L Q y) (hx : Stat L Q x) (e : sumF x L = sumF y L) : ∀ k, k < L → x k = y k := by
  have hd : Stat L Q fun k => x k - y k := fun k hk => by
    have : sumF (fun i => (x i - y i) * Q i k) L = sumF (fun i => x i * Q i k) L - sumF (fun i => y i * Q i k) L := by rw [← sumF_sub]; exact sumF_congr fun i _ => by grind
    rw [this, hs k hk, hx k hk]
  have := stat_zero h hd (by rw [sumF_sub, e]; grind)
  intro k hk
  have := this k hk
  grind
def stM (L : Nat) (Q : Mx) : Mx := fun k i => if i = L then (if k = 0 then 1 else 0) else if k = 0 then 1 else Q i k - (if i = k then 1 else 0)
theorem stM_zero (h : 0 < L) : sumF (fun i => stM L Q 0 i * y i) L = sumF y L := sumF_congr fun i hi => by
  unfold stM
  rw [if_neg (by omega), if_pos rfl, Rat.one_mul]
theorem stM_pos {k : Nat} (hk : k < L) (h0 : k ≠ 0) : sumF (fun i => stM L Q k i * y i) L = sumF (fun i => y i * Q i k) L - y k := by
  have e : sumF (fun i => (if i = k then (1 : Rat) else 0) * y i) L = y k := by
    rw [sumF_single (i := k) (fun i _ hne => by rw [if_neg hne, Rat.zero_mul]) hk, if_pos rfl, Rat.one_mul]
  rw [← e, ← sumF_sub]
  refine sumF_congr fun i hi => ?_
  unfold stM
  rw [if_neg (by omega), if_neg h0]
  grind
theorem st_stat (h : Irr L Q) (hL : 0 < L) (hk : ∀ k, k < L → k ≠ 0 → sumF (fun i => y i * Q i k) L = y k) : Stat L Q y := fun k hkL => by
  by_cases e : k = 0
  · subst e
    have hz : sumF (fun k => sumF (fun i => y i * Q i k) L - y k) L = 0 := by rw [sumF_sub, stat_total h]; grind
    rw [sumF_single (i := 0) (fun k hk' hne => by rw [hk k hk' hne]; grind) hL] at hz
    grind
  · exact hk k hkL e
theorem st_hom (h : Irr L Q) (hL : 0 < L) (hy : Hom L (stM L Q) y) : ∀ k, k < L → y k = 0 := by
  refine stat_zero h (st_stat h hL fun k hk h0 => ?_) ?_
  · have := hy k hk
    rw [stM_pos hk h0] at this
    grind
  · have := hy 0 hL
    rwa [stM_zero hL] at this
theorem st_sol (h : Irr L Q) (hL : 0 < L) (hy : Sol L (stM L Q) y) : Stat L Q y ∧ sumF y L = 1 := by
  refine ⟨st_stat h hL fun k hk h0 => ?_, ?_⟩
  · have := hy k hk
    rw [stM_pos hk h0, show stM L Q k L = 0 by unfold stM; rw [if_pos rfl, if_neg h0]] at this
    grind
  · have := hy 0 hL
    rw [stM_zero hL, show stM L Q 0 L = 1 by unfold stM; rw [if_pos rfl, if_pos rfl]] at this
    exact this
end
end Go.Proofs.YtabmgfchkcmcmaaDoor
