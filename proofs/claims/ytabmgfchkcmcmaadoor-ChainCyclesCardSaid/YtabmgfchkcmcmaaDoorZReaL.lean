/- Who comes to whom, in plain Lean: Warshall's way; classes; a closed one. No program in sight. Conditions: none. -/
import Derived.Test.YtabmgfchkcmcmaaDoorZSolL
set_option linter.unusedVariables false
set_option linter.unusedSimpArgs false
namespace Go.Proofs.YtabmgfchkcmcmaaDoor
open Go Go.RowKit
abbrev Bx := Nat → Nat → Bool
def wsh (E : Bx) : Nat → Bx
  | 0 => fun i j => decide (i = j) || E i j
  | k + 1 => fun i j => wsh E k i j || (wsh E k i k && wsh E k k j)
inductive Star (n : Nat) (E : Bx) (i : Nat) : Nat → Prop
  | refl : Star n E i i
  | step {j k : Nat} (h : Star n E i j) (hk : k < n) (he : E j k = true) : Star n E i k
section
variable {n K i j k : Nat} {E : Bx}
theorem Star.trans (h1 : Star n E i j) (h2 : Star n E j k) : Star n E i k := by
  induction h2 with
  | refl => exact h1
  | step _ hk he ih => exact .step ih hk he
theorem wsh_mono (h : wsh E K i j = true) : ∀ m, wsh E (K + m) i j = true := by
  intro m
  induction m with
  | zero => exact h
  | succ m ih => show (wsh E (K + m) i j || _) = true; rw [ih]; rfl
theorem wsh_up (h : wsh E K i j = true) {m : Nat} (hm : K ≤ m) : wsh E m i j = true := by
  have := wsh_mono h (m - K)
  rwa [show K + (m - K) = m by omega] at this
theorem wsh_refl (K i : Nat) : wsh E K i i = true := wsh_up (K := 0) (by show (decide (i = i) || _) = true; simp) (Nat.zero_le _)
theorem wsh_edge (h : E i j = true) (K : Nat) : wsh E K i j = true := wsh_up (K := 0) (by show (_ || E i j) = true; rw [h]; simp) (Nat.zero_le _)
theorem wsh_sound : ∀ {K : Nat}, K ≤ n → ∀ {i j : Nat}, j < n → wsh E K i j = true → Star n E i j := by
  intro K
  induction K with
  | zero =>
    intro _ i j hj h
    replace h : (decide (i = j) || E i j) = true := h
    rcases Bool.or_eq_true_iff.1 h with h | h
    · have := of_decide_eq_true h; subst this; exact .refl
    · exact .step .refl hj h
  | succ K ih =>
    intro hK i j hj h
    replace h : (wsh E K i j || (wsh E K i K && wsh E K K j)) = true := h
    rcases Bool.or_eq_true_iff.1 h with h | h
    · exact ih (by omega) hj h
    · obtain ⟨h1, h2⟩ := Bool.and_eq_true_iff.1 h
      exact (ih (by omega) (by omega) h1).trans (ih (by omega) hj h2)
theorem wsh_in : wsh E (K + 1) i K = wsh E K i K := by
  show (wsh E K i K || (wsh E K i K && wsh E K K K)) = _
  cases wsh E K i K <;> simp
theorem wsh_out : wsh E (K + 1) K j = wsh E K K j := by
  show (wsh E K K j || (wsh E K K K && wsh E K K j)) = _
  cases wsh E K K j <;> simp
theorem wsh_trans : ∀ {K : Nat} {k i j : Nat}, k < K → wsh E K i k = true → wsh E K k j = true → wsh E K i j = true := by
  intro K
  induction K with
  | zero => intro k i j h; omega
  | succ K ih =>
    intro k i j hk h1 h2
    have via : wsh E K i K = true → wsh E K K j = true → wsh E (K + 1) i j = true := fun a b => by
      show (wsh E K i j || (wsh E K i K && wsh E K K j)) = true
      rw [a, b]; simp
    by_cases e : k = K
    · subst e
      rw [wsh_in] at h1
      rw [wsh_out] at h2
      exact via h1 h2
    · have hkK : k < K := by omega
      replace h1 : (wsh E K i k || (wsh E K i K && wsh E K K k)) = true := h1
      replace h2 : (wsh E K k j || (wsh E K k K && wsh E K K j)) = true := h2
      rcases Bool.or_eq_true_iff.1 h1 with a | a <;> rcases Bool.or_eq_true_iff.1 h2 with b | b
      · exact wsh_up (ih hkK a b) (by omega)
      · obtain ⟨b1, b2⟩ := Bool.and_eq_true_iff.1 b
        exact via (ih hkK a b1) b2
      · obtain ⟨a1, a2⟩ := Bool.and_eq_true_iff.1 a
        exact via a1 (ih hkK a2 b)
      · obtain ⟨a1, a2⟩ := Bool.and_eq_true_iff.1 a
        obtain ⟨b1, b2⟩ := Bool.and_eq_true_iff.1 b
        exact via a1 b2
theorem Star.lt (h : Star n E i j) (hi : i < n) : j < n := by cases h with | refl => exact hi | step _ hk _ => exact hk
theorem wsh_all (h : Star n E i j) (hi : i < n) : wsh E n i j = true := by
  induction h with
  | refl => exact wsh_refl n i
  | step h hk he ih => exact wsh_trans (h.lt hi) ih (wsh_edge he n)
theorem wsh_iff (hi : i < n) (hj : j < n) : wsh E n i j = true ↔ Star n E i j := ⟨wsh_sound (Nat.le_refl _) hj, fun h => wsh_all h hi⟩
def cls (n : Nat) (R : Bx) (i : Nat) : List Nat := (List.range n).filter fun k => R i k && R k i
def clo (n : Nat) (R : Bx) (i : Nat) : Bool := !((List.range n).any fun k => R i k && !R k i)
def isRep (n : Nat) (R : Bx) (i : Nat) : Bool := (cls n R i).head? == some i
structure Pre (n : Nat) (R : Bx) : Prop where
  refl : ∀ i, R i i = true
  trans : ∀ i j k, j < n → R i j = true → R j k = true → R i k = true
theorem wsh_pre : Pre n (wsh E n) := ⟨fun i => wsh_refl n i, fun i j k hj h1 h2 => wsh_trans hj h1 h2⟩
variable {R : Bx}
theorem cls_mem : k ∈ cls n R i ↔ k < n ∧ R i k = true ∧ R k i = true := by simp [cls]
theorem cls_self (p : Pre n R) (hi : i < n) : i ∈ cls n R i := cls_mem.2 ⟨hi, p.refl i, p.refl i⟩
theorem clo_iff : clo n R i = true ↔ ∀ k, k < n → R i k = true → R k i = true := by
  simp [clo]
theorem cls_eq (p : Pre n R) (hi : i < n) (hk : k ∈ cls n R i) : cls n R k = cls n R i := by
  obtain ⟨h1, h2, h3⟩ := cls_mem.1 hk
  unfold cls
  refine List.filter_congr fun j hj => ?_
  have hjn := List.mem_range.1 hj
  rw [Bool.eq_iff_iff, Bool.and_eq_true, Bool.and_eq_true]
  exact ⟨fun ⟨a, b⟩ => ⟨p.trans i k j h1 h2 a, p.trans j k i h1 b h3⟩, fun ⟨a, b⟩ => ⟨p.trans k i j hi h3 a, p.trans j i k hi b h2⟩⟩
theorem clo_class (p : Pre n R) (hi : i < n) (hk : k ∈ cls n R i) (hc : clo n R i = true) : clo n R k = true := by
  obtain ⟨h1, h2, h3⟩ := cls_mem.1 hk
  refine clo_iff.2 fun j hj h => ?_
  have a := clo_iff.1 hc j hj (p.trans i k j h1 h2 h)
  exact p.trans j i k hi a h2
theorem clo_ex (p : Pre n R) (hn : 0 < n) : ∃ i, i < n ∧ clo n R i = true := by
  have key : ∀ m i, i < n → ((List.range n).filter (R i)).length ≤ m → ∃ i, i < n ∧ clo n R i = true := by
    intro m
    induction m with
    | zero =>
      intro i hi hm
      have : i ∈ (List.range n).filter (R i) := by simp [hi, p.refl i]
      have := List.length_pos_of_mem this
      omega
    | succ m ih =>
      intro i hi hm
      by_cases hc : clo n R i = true
      · exact ⟨i, hi, hc⟩
      · have : ¬ ∀ k, k < n → R i k = true → R k i = true := fun h => hc (clo_iff.2 h)
        obtain ⟨k, hk⟩ := Classical.not_forall.1 this
        obtain ⟨hkn, hk⟩ := Classical.not_imp.1 hk
        obtain ⟨h1, h2⟩ := Classical.not_imp.1 hk
        refine ih k hkn ?_
        have hsub : ((List.range n).filter (R k)).length < ((List.range n).filter (R i)).length := by
          have e : (List.range n).filter (R k) = ((List.range n).filter (R i)).filter (R k) := by
            rw [List.filter_filter]
            refine List.filter_congr fun j hj => ?_
            have hjn := List.mem_range.1 hj
            cases hj2 : R k j with
            | false => simp
            | true => simp [p.trans i k j hkn h1 hj2]
          rw [e]
          refine List.length_filter_lt_length_iff_exists.2 ⟨i, by simp [hi, p.refl i], h2⟩
        omega
  exact key _ 0 hn (Nat.le_refl _)
theorem rep_ex (p : Pre n R) (hi : i < n) : ∃ r, r < n ∧ isRep n R r = true ∧ r ∈ cls n R i := by
  have hne : cls n R i ≠ [] := List.ne_nil_of_mem (cls_self p hi)
  obtain ⟨r, l, e⟩ := List.exists_cons_of_ne_nil hne
  have hr : r ∈ cls n R i := by rw [e]; simp
  refine ⟨r, (cls_mem.1 hr).1, ?_, hr⟩
  unfold isRep
  rw [cls_eq p hi hr, e]
  simp
theorem cls_nodup : (cls n R i).Nodup := List.Pairwise.filter _ List.nodup_range
end
end Go.Proofs.YtabmgfchkcmcmaaDoor
