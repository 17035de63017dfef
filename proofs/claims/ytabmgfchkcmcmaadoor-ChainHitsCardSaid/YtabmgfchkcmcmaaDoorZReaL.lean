/- Who comes to whom, in plain Lean: Warshall's way; classes; a closed one. No program in sight. Conditions: none. -/
import Derived.Test.YtabmgfchkcmcmaaDoorZSolL
set_option linter.unusedVariables false
set_option linter.unusedSimpArgs false
namespace Go.Proofs.YtabmgfchkcmcmaaDoor
open Go Go.RowKit
abbrev Bx := Nat → Nat → Bool
def wsh (E : Bx) : Nat → Bx
  | 0 => fun i j => decide (i = j) || E i j
  | k + 1 => fun i j => wsh E k i j || (wsh E k i k && wsh E k k j)
inductive Star (n : Nat) (E : Bx) (i : Nat) : Nat → Prop
  | refl : Star n E i i
  | step {j k : Nat} (h : Star n E i j) (hk : k < n) (he : E j k = true) : Star n E i k
section
variable {n K i j k : Nat} {E : Bx}
theorem Star.trans (h1 : Star n E i j) (h2 : Star n E j k) : Star n E i k := by
  induction h2 with
  | refl => exact h1
  | step _ hk he ih => exact .step ih hk he
theorem wsh_mono (h : wsh E K i j = true) : ∀ m, wsh E (K + m) i j = true := by
  intro m
  induction m with
  | zero => exact h
  | succ m ih => show (wsh E (K + m) i j || _) = true; rw [ih]; rfl
theorem wsh_up (h : wsh E K i j = true) {m : Nat} (hm : K ≤ m) : wsh E m i j = true := by
  have := wsh_mono h (m - K)
  rwa [show K + (m - K) = m by omega] at this
theorem wsh_refl (K i : Nat) : wsh E K i i = true := wsh_up (K := 0) (by show (decide (i = i) || _) = true; simp) (Nat.zero_le _)
theorem wsh_edge (h : E i j = true) (K : Nat) : wsh E K i j = true := wsh_up (K := 0) (by show (_ || E i j) = true; rw [h]; simp) (Nat.zero_le _)
theorem wsh_sound : ∀ {K : Nat}, K ≤ n → ∀ {i j : Nat}, j < n → wsh E K i j = true → Star n E i j := by
  intro K
  induction K with
  | zero =>
    intro _ i j hj h
    replace h : (decide (i = j) || E i j) = true := h
    rcases Bool.or_eq_true_iff.1 h with h | h
    · have := of_decide_eq_true h; subst this; exact .refl
    · exact .step .refl hj h
  | succ K ih =>
    intro hK i j hj h
    replace h : (wsh E K i j || (wsh E K i K && wsh E K K j)) = true := h
    rcases Bool.or_eq_true_iff.1 h with h | h
    · exact ih (by omega) hj h
    · obtain ⟨h1, h2⟩ := Bool.and_eq_true_iff.1 h
      exact (ih (by omega) (by omega) h1).trans (ih (by omega) hj h2)
theorem wsh_in : wsh E (K + 1) i K = wsh E K i K := by
  show (wsh E K i K || (wsh E K i K && wsh E K K K)) = _
  cases wsh E K i K <;> simp
theorem wsh_out : wsh E (K + 1) K j = wsh E K K j := by
  show (wsh E K K j || (wsh E K K K && wsh E K K j)) = _
  cases wsh E K K j <;> simp
theorem wsh_trans : ∀ {K : Nat} {k i j : Nat}, k < K → wsh E K i k = true → wsh E K k j = true → wsh E K i j = true := by
  intro K
  induction K with
  | zero => intro k i j h; omega
  | succ K ih =>
    intro k i j hk h1 h2
    have via : wsh E K i K = true → wsh E K K j = true → wsh E (K + 1) i j = true := fun a b => by
      show (wsh E K i j || (wsh E K i K && wsh E K K j)) = true
      rw [a, b]; simp
    by_cases e : k = K
    · subst e
      rw [wsh_in] at h1
      rw [wsh_out] at h2
      exact via h1 h2
    · have hkK : k < K := by omega
      replace h1 : (wsh E K i k || (wsh E K i K && wsh E K K k)) = true := h1
      replace h2 : (wsh E K k j || (wsh E K k K && wsh E K K j)) = true := h2
      rcases Bool.or_eq_true_iff.1 h1 with a | a <;> rcases Bool.or_eq_true_iff.1 h2 with b | b
      · exact wsh_up (ih hkK a b) (by omega)
      · obtain ⟨b1, b2⟩ := Bool.and_eq_true_iff.1 b
        exact via (ih hkK a b1) b2
      · obtain ⟨a1, a2⟩ := Bool.and_eq_true_iff.1 a
        exact via a1 (ih hkK a2 b)
      · obtain ⟨a1, a2⟩ := Bool.and_eq_true_iff.1 a
        obtain ⟨b1, b2⟩ := Bool.and_eq_true_iff.1 b
        exact via a1 b2
theorem Star.lt (h : Star n E i j) (hi : i < n) : j < n := by cases h with | refl => exact hi | step _ hk _ => exact hk
theorem wsh_all (h : Star n E i j) (hi : i < n) : wsh E n i j = true := by
  induction h with
  | refl => exact wsh_refl n i
  | step h hk he ih => exact wsh_trans (h.lt hi) ih (wsh_edge he n)
theorem wsh_iff (hi : i < n) (hj : j < n) : wsh E n i j = true ↔ Star n E i j := ⟨wsh_sound (Nat.le_refl _) hj, fun h => wsh_all h hi⟩
def cls (n : Nat) (R : Bx) (i : Nat) : List Nat := (List.range n).filter fun k => R i k && R k i
def clo (n : Nat) (R : Bx) (i : Nat) : Bool := !((List.range n).any fun k => R i k && !R k i)
def isRep (n : Nat) (R : Bx) (i : Nat) : Bool := (cls n R i).head? == some i
structure Pre (n : Nat) (R : Bx) : Prop where
  refl : ∀ i, R i i = true
  trans : ∀ i j k, j < n → R i j = true → R j k = true → R i k = true
variable {R : Bx}
end
end Go.Proofs.YtabmgfchkcmcmaaDoor
