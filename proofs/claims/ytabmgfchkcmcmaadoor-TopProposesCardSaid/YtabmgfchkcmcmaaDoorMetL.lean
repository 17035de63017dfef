/- Metropolis leaves as much each way, its rows are chances. No program in sight. Conditions: none. -/
import Derived.Test.YtabmgfchkcmcmaaDoorMet
set_option linter.unusedVariables false
set_option linter.unusedSimpArgs false
namespace Go.Proofs.YtabmgfchkcmcmaaDoor
open Go Go.RowKit
theorem bal_core {a b x y : Rat} (ha : 0 ≤ a) (hb : 0 ≤ b) (hx : 0 ≤ x) (hy : 0 ≤ y) :
    a * (if a ≠ 0 ∧ b * y / a < x then b * y / a else x) = b * (if b ≠ 0 ∧ a * x / b < y then a * x / b else y) := by
  by_cases za : a = 0
  · subst za
    by_cases zb : b = 0
    · subst zb; rw [Rat.zero_mul, Rat.zero_mul]
    · rw [Rat.zero_mul, Rat.zero_mul, Rat.div_def, Rat.zero_mul]
      by_cases h : (0 : Rat) < y
      · rw [if_pos ⟨zb, h⟩, Rat.mul_zero]
      · rw [if_neg fun hh => h hh.2, Rat.le_antisymm (Rat.not_lt.1 h) hy, Rat.mul_zero]
  · by_cases zb : b = 0
    · subst zb
      rw [Rat.zero_mul, Rat.zero_mul, Rat.div_def, Rat.zero_mul]
      by_cases h : (0 : Rat) < x
      · rw [if_pos ⟨za, h⟩, Rat.mul_zero]
      · rw [if_neg fun hh => h hh.2, Rat.le_antisymm (Rat.not_lt.1 h) hx, Rat.mul_zero]
    · have pa : 0 < a := Rat.lt_of_le_of_ne ha (Ne.symm za)
      have pb : 0 < b := Rat.lt_of_le_of_ne hb (Ne.symm zb)
      have e1 : a * (b * y / a) = b * y := by grind
      have e2 : b * (a * x / b) = a * x := by grind
      by_cases h : b * y / a < x
      · have h2 : ¬ a * x / b < y := fun h2 => by
          have := Rat.mul_lt_mul_of_pos_left h pa
          have := Rat.mul_lt_mul_of_pos_left h2 pb
          grind
        rw [if_pos ⟨za, h⟩, if_neg fun hh => h2 hh.2, e1]
      · by_cases h2 : a * x / b < y
        · rw [if_neg fun hh => h hh.2, if_pos ⟨zb, h2⟩, e2]
        · rw [if_neg fun hh => h hh.2, if_neg fun hh => h2 hh.2]
          have := Rat.mul_le_mul_of_nonneg_left (Rat.not_lt.1 h) ha
          have := Rat.mul_le_mul_of_nonneg_left (Rat.not_lt.1 h2) hb
          grind
section
variable {w : List Rat} {q : List (List Rat)}
theorem mv_bal {i k : Nat} (hw : ∀ j, 0 ≤ w.getD j 0) (hq : ∀ i k, 0 ≤ at2 q i k) : w.getD i 0 * mv w q i k = w.getD k 0 * mv w q k i := bal_core (hw i) (hw k) (hq i k) (hq k i)
theorem mv_nonneg {i k : Nat} (hw : ∀ j, 0 ≤ w.getD j 0) (hq : ∀ i k, 0 ≤ at2 q i k) : 0 ≤ mv w q i k := by
  unfold mv
  split
  · rename_i h
    unfold mvB
    rw [Rat.div_def]
    exact Rat.mul_nonneg (Rat.mul_nonneg (hw k) (hq k i)) (Rat.le_of_lt (Rat.inv_pos.2 (Rat.lt_of_le_of_ne (hw i) (Ne.symm h.1))))
  · exact hq i k
theorem mv_le {i k : Nat} : mv w q i k ≤ at2 q i k := by
  unfold mv
  split
  · rename_i h; exact Rat.le_of_lt h.2
  · exact Rat.le_refl
theorem off_le {i : Nat} (hq : ∀ i k, 0 ≤ at2 q i k) : ∀ k, offTo w q i k ≤ sumTo (q.getD i []) k := by
  intro k
  induction k with
  | zero => exact Rat.le_refl
  | succ k ih =>
    show offTo w q i k + (if k = i then 0 else mv w q i k) ≤ sumTo (q.getD i []) k + at2 q i k
    have h1 := mv_le (w := w) (q := q) (i := i) (k := k)
    have h2 := hq i k
    split <;> grind
theorem metRow_get {i k : Nat} (hk : k < w.length) : (metRow w q i).getD k 0 = if k = i then 1 - offTo w q i w.length else mv w q i k := by
  simp [metRow, List.getD, hk]
theorem metRow_sumTo {i : Nat} (hi : i < w.length) : ∀ k, k ≤ w.length → sumTo (metRow w q i) k = offTo w q i k + (if i < k then 1 - offTo w q i w.length else 0) := by
  intro k
  induction k with
  | zero => intro _; show (0 : Rat) = 0 + _; rw [if_neg (by omega), Rat.add_zero]
  | succ k ih =>
    intro hk
    show sumTo _ k + (metRow w q i).getD k 0 = offTo w q i k + (if k = i then 0 else mv w q i k) + _
    rw [ih (by omega), metRow_get (by omega)]
    by_cases e : k = i
    · subst e
      rw [if_pos rfl, if_pos rfl, if_neg (by omega), if_pos (by omega)]
    · rw [if_neg e, if_neg e]
      by_cases h : i < k
      · rw [if_pos h, if_pos (by omega)]; grind
      · rw [if_neg h, if_neg (by omega)]; grind
theorem metRow_sum {i : Nat} (hi : i < w.length) : sumR (metRow w q i) = 1 := by
  unfold sumR
  rw [show (metRow w q i).length = w.length by simp [metRow], metRow_sumTo hi _ (Nat.le_refl _), if_pos hi]
  grind
theorem metRow_nonneg {i k : Nat} (hk : k < w.length) (hw : ∀ j, 0 ≤ w.getD j 0) (hq : ∀ i k, 0 ≤ at2 q i k) (h1 : sumTo (q.getD i []) w.length = 1) : 0 ≤ (metRow w q i).getD k 0 := by
  rw [metRow_get hk]
  split
  · have := off_le (w := w) (i := i) hq w.length
    grind
  · exact mv_nonneg hw hq
theorem metRow_bal {i k : Nat} (hi : i < w.length) (hk : k < w.length) (hw : ∀ j, 0 ≤ w.getD j 0) (hq : ∀ i k, 0 ≤ at2 q i k) : w.getD i 0 * (metRow w q i).getD k 0 = w.getD k 0 * (metRow w q k).getD i 0 := by
  rw [metRow_get hk, metRow_get hi]
  by_cases e : k = i
  · subst e; rfl
  · rw [if_neg e, if_neg (Ne.symm e)]; exact mv_bal hw hq
end
end Go.Proofs.YtabmgfchkcmcmaaDoor
