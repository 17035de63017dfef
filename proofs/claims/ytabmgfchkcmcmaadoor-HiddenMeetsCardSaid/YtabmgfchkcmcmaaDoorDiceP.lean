/- Dice, in plain Lean: how many of so many draw each value. No program in sight. Conditions: none. -/
import Derived.Test.YtabmgfchkcmcmaaDoorDraw
import Derived.Test.YtabmgfchkcmcmaaDoorRoB
set_option linter.unusedVariables false
set_option linter.unusedSimpArgs false
namespace Go.Proofs.YtabmgfchkcmcmaaDoor
open Go Go.RowKit
abbrev qN (n : Nat) : Rat := ((n : Int) : Rat)
theorem qN_add (a b : Nat) : qN (a + b) = qN a + qN b := by unfold qN; rw [Int.natCast_add, Rat.intCast_add]
theorem qN_mul (a b : Nat) : qN (a * b) = qN a * qN b := by unfold qN; rw [Int.natCast_mul, Rat.intCast_mul]
theorem qN_lt {a b : Nat} : qN a < qN b ↔ a < b := by unfold qN; rw [Rat.intCast_lt_intCast]; omega
theorem qN_inj {a b : Nat} : qN a = qN b ↔ a = b := by unfold qN; rw [Rat.intCast_inj]; omega
theorem den_mul (q : Rat) : q * qN q.den = (q.num : Rat) := by
  have := Rat.mul_inv_cancel (qN q.den) (by unfold qN; intro h; have := Rat.intCast_eq_zero_iff.1 h; have := q.den_pos; omega)
  have e : q = (q.num : Rat) * (qN q.den)⁻¹ := by
    have h := (Rat.mkRat_self q).symm
    rw [Rat.mkRat_eq_div, Rat.div_def] at h
    exact h
  calc q * qN q.den = ((q.num : Rat) * (qN q.den)⁻¹) * qN q.den := by rw [← e]
    _ = q.num := by rw [Rat.mul_assoc, Rat.mul_comm (qN q.den)⁻¹, this, Rat.mul_one]
theorem rat_nat {q : Rat} (h0 : 0 ≤ q) {N : Nat} (hd : q.den ∣ N) : ∃ a : Nat, qN a = q * qN N := by
  obtain ⟨c, rfl⟩ := hd
  have hn : 0 ≤ q.num := Rat.num_nonneg.2 h0
  refine ⟨q.num.toNat * c, ?_⟩
  rw [qN_mul, qN_mul, ← Rat.mul_assoc, den_mul]
  congr 1
  unfold qN
  rw [Int.toNat_of_nonneg hn]
def denTo (l : List Rat) (t : Nat) : Nat → Nat
  | 0 => t
  | i + 1 => denTo l t i * (l.getD i 0).den
theorem denTo_le {l : List Rat} {t : Nat} (h : ∀ q ∈ l, q.den ≤ 24) : ∀ i, i ≤ l.length → denTo l t i ≤ t * 24 ^ i := by
  intro i
  induction i with
  | zero => intro _; simp [denTo]
  | succ i ih =>
    intro hi
    show denTo l t i * (l.getD i 0).den ≤ _
    rw [lget_lt l 0 (by omega), Nat.pow_succ, ← Nat.mul_assoc]
    exact Nat.mul_le_mul (ih (by omega)) (h _ (List.getElem_mem _))
theorem denTo_pos {l : List Rat} {t : Nat} (h : 0 < t) : ∀ i, 0 < denTo l t i := by
  intro i
  induction i with
  | zero => exact h
  | succ i ih => exact Nat.mul_pos ih (Rat.den_pos _)
theorem denTo_dvd {l : List Rat} {t : Nat} : ∀ i j, j < i → (l.getD j 0).den ∣ denTo l t i := by
  intro i
  induction i with
  | zero => intro j h; omega
  | succ i ih =>
    intro j h
    by_cases e : j = i
    · subst e; exact Nat.dvd_mul_left _ _
    · exact Nat.dvd_trans (ih j (by omega)) (Nat.dvd_mul_right _ _)
/-- How many dice draw one of the first values. -/
theorem parts {l : List Rat} {N : Nat} (h0 : ∀ q ∈ l, 0 ≤ q) (hd : ∀ j, j < l.length → (l.getD j 0).den ∣ N) : ∃ s : Nat → Nat, s 0 = 0 ∧ (∀ j, j ≤ l.length → qN (s j) = sumTo l j * qN N) ∧ ∀ j, s j ≤ s (j + 1) := by
  have each : ∀ j, ∃ a : Nat, j < l.length → qN a = l.getD j 0 * qN N := fun j => by
    by_cases hj : j < l.length
    · obtain ⟨a, ha⟩ := rat_nat (h0 (l.getD j 0) (by rw [lget_lt l 0 hj]; exact List.getElem_mem _)) (hd j hj)
      exact ⟨a, fun _ => ha⟩
    · exact ⟨0, fun h => absurd h hj⟩
  let A : Nat → Nat := fun j => Classical.choose (each j)
  have hA : ∀ j, j < l.length → qN (A j) = l.getD j 0 * qN N := fun j => Classical.choose_spec (each j)
  let s : Nat → Nat := fun j => (List.range j).foldl (fun a i => a + A i) 0
  have hs : ∀ j, s (j + 1) = s j + A j := fun j => by simp [s, List.range_succ]
  refine ⟨s, rfl, fun j => ?_, fun j => by rw [hs]; omega⟩
  induction j with
  | zero => intro _; show qN 0 = 0 * _; rw [Rat.zero_mul]; rfl
  | succ j ih =>
    intro hj
    rw [hs, qN_add, ih (by omega), hA j (by omega)]
    show _ = (sumTo l j + l.getD j 0) * _
    rw [Rat.add_mul]
theorem draw_part {l : List Rat} {N : Nat} {s : Nat → Nat} (hs : ∀ j, j ≤ l.length → qN (s j) = sumTo l j * qN N) (h0 : s 0 = 0) (hm : ∀ j, s j ≤ s (j + 1)) (hN : s l.length = N) {k : Nat} (hk : k < N) : ∃ j, j < l.length ∧ drawAt l (k : Int) (N : Int) = some j ∧ s j ≤ k ∧ k < s (j + 1) := by
  have key : ∀ j, j ≤ l.length → (∀ i, i < j → s (i + 1) ≤ k) → k < s j → False ∨ True := fun _ _ _ _ => .inr trivial
  have ex : ∃ j, j < l.length ∧ k < s (j + 1) ∧ ∀ i, i < j → ¬ k < s (i + 1) := by
    have : ∀ n, n ≤ l.length → k < s n → ∃ j, j < n ∧ k < s (j + 1) ∧ ∀ i, i < j → ¬ k < s (i + 1) := by
      intro n
      induction n with
      | zero => intro _ h; rw [h0] at h; omega
      | succ n ih =>
        intro hn h
        by_cases h' : k < s n
        · obtain ⟨j, h1, h2, h3⟩ := ih (by omega) h'
          exact ⟨j, by omega, h2, h3⟩
        · refine ⟨n, by omega, h, fun i hi hh => ?_⟩
          have mono : ∀ d, s (i + 1) ≤ s (i + 1 + d) := fun d => by
            induction d with
            | zero => exact Nat.le_refl _
            | succ d ihd => exact Nat.le_trans ihd (hm _)
          have := mono (n - (i + 1))
          rw [show i + 1 + (n - (i + 1)) = n by omega] at this
          omega
    exact this l.length (Nat.le_refl _) (by rw [hN]; exact hk)
  obtain ⟨j, h1, h2, h3⟩ := ex
  refine ⟨j, h1, drawAt_some h1 ?_ fun i hi hh => h3 i hi ?_, ?_, h2⟩
  · have := qN_lt.2 h2
    rw [hs (j + 1) h1] at this
    exact this
  · refine qN_lt.1 ?_
    rw [hs (i + 1) (by omega)]
    exact hh
  · cases j with
    | zero => rw [h0]; omega
    | succ j => have := h3 j (by omega); omega
/-- The counts behind k dice. -/
def cnt (s : Nat → Nat) (k j : Nat) : Nat := min k (s (j + 1)) - min k (s j)
theorem cnt_all {s : Nat → Nat} {N j : Nat} (h : s (j + 1) ≤ N) (hm : s j ≤ s (j + 1)) : cnt s N j = s (j + 1) - s j := by unfold cnt; omega
def cnts (s : Nat → Nat) (n k : Nat) : List Nat := (List.range n).map (cnt s k)
theorem cnts_zero (s : Nat → Nat) (n : Nat) : cnts s n 0 = List.replicate n 0 := by
  unfold cnts cnt
  apply List.ext_getElem?
  intro i
  by_cases h : i < n <;> simp [h, List.getElem?_replicate]
theorem cnts_next {s : Nat → Nat} {n k j : Nat} (hm : ∀ i, s i ≤ s (i + 1)) (hj : j < n) (h1 : s j ≤ k) (h2 : k < s (j + 1)) : (cnts s n k).set j (cnt s k j + 1) = cnts s n (k + 1) := by
  have mono : ∀ i d, s i ≤ s (i + d) := fun i d => by
    induction d with
    | zero => exact Nat.le_refl _
    | succ d ih => exact Nat.le_trans ih (hm _)
  apply List.ext_getElem?
  intro i
  unfold cnts
  by_cases hi : i < n
  · by_cases e : i = j
    · subst e
      rw [List.getElem?_set_self (by simpa using hi)]
      simp only [List.getElem?_map, List.getElem?_range hi, Option.map_some, Option.some.injEq]
      unfold cnt; have := hm i; omega
    · rw [List.getElem?_set_ne (Ne.symm e)]
      simp only [List.getElem?_map, List.getElem?_range hi, Option.map_some, Option.some.injEq]
      unfold cnt
      have := hm i
      rcases Nat.lt_or_gt_of_ne e with h | h
      · have := mono (i + 1) (j - (i + 1))
        rw [show i + 1 + (j - (i + 1)) = j by omega] at this
        omega
      · have := mono (j + 1) (i - (j + 1))
        rw [show j + 1 + (i - (j + 1)) = i by omega] at this
        omega
  · rw [List.getElem?_eq_none (by simpa using by omega), List.getElem?_eq_none (by simpa using by omega)]
end Go.Proofs.YtabmgfchkcmcmaaDoor
