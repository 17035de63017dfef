/- Who comes somewhere, and how likely, in plain Lean: the equations have one answer; it is between 0 and 1, what it is one step later, and above 0 just where one can come there. Conditions: none. -/
import Derived.Test.YtabmgfchkcmcmaaDoorZPowL
set_option linter.unusedVariables false
set_option linter.unusedSimpArgs false
namespace Go.Proofs.YtabmgfchkcmcmaaDoor
open Go Go.RowKit
def hitM (n : Nat) (A : Mx) (S C : Nat → Bool) : Mx := fun i k => if k = n then (if S i = true then 1 else 0) else if C i = true ∧ S i = false then (if i = k then 1 else 0) - A i k else (if i = k then 1 else 0)
def CanTo (n : Nat) (A : Mx) (S C : Nat → Bool) : Prop := ∀ i, i < n → (C i = true ↔ ∃ t, t < n ∧ S t = true ∧ Star n (posE A) i t)
theorem argmax_ex (y : Nat → Rat) : ∀ {n : Nat}, 0 < n → ∃ i, i < n ∧ ∀ k, k < n → y k ≤ y i := by
  intro n
  induction n with
  | zero => intro h; omega
  | succ n ih =>
    intro _
    by_cases h0 : n = 0
    · subst h0
      exact ⟨0, by omega, fun k hk => by rw [show k = 0 by omega]; exact Rat.le_refl⟩
    · obtain ⟨i, hi, hm⟩ := ih (by omega)
      by_cases h : y n ≤ y i
      · refine ⟨i, by omega, fun k hk => ?_⟩
        by_cases e : k = n
        · rw [e]; exact h
        · exact hm k (by omega)
      · have h' := Rat.not_le.1 h
        refine ⟨n, by omega, fun k hk => ?_⟩
        by_cases e : k = n
        · rw [e]; exact Rat.le_refl
        · exact Rat.le_trans (hm k (by omega)) (Rat.le_of_lt h')
section
variable {n : Nat} {A : Mx} {S C : Nat → Bool} {y h : Nat → Rat}
theorem CanTo.mem (hC : CanTo n A S C) {i : Nat} (hi : i < n) (hS : S i = true) : C i = true := (hC i hi).2 ⟨i, hi, hS, .refl⟩
theorem CanTo.back (hC : CanTo n A S C) {i k : Nat} (hi : i < n) (hk : k < n) (he : 0 < A i k) (h : C k = true) : C i = true := by
  obtain ⟨t, ht, hS, hst⟩ := (hC k hk).1 h
  exact (hC i hi).2 ⟨t, ht, hS, (Star.step .refl hk (decide_eq_true he)).trans hst⟩
theorem max_pr (hs : Sto n A) (hC : CanTo n A S C) {B : Rat} (hB : ∀ i, i < n → (S i = true ∨ C i = false) → y i ≤ B)
    (hy : ∀ i, i < n → S i = false → C i = true → y i ≤ sumF (fun k => A i k * y k) n) : ∀ i, i < n → y i ≤ B := by
  intro i hi
  refine Rat.not_lt.1 fun hlt => ?_
  obtain ⟨a, ha, hm⟩ := argmax_ex y (n := n) (by omega)
  have hMB : B < y a := Std.lt_of_lt_of_le hlt (hm i hi)
  have key : ∀ j, Star n (posE A) a j → y j = y a := fun j hst => by
    induction hst with
    | refl => rfl
    | step hst hk he ih =>
      rename_i j k
      have hj := hst.lt ha
      have hn : ¬ (S j = true ∨ C j = false) := fun hh => by
        have := hB j hj hh
        rw [ih] at this
        exact Rat.not_lt.2 this hMB
      have hSj : S j = false := by cases hc : S j <;> simp_all
      have hCj : C j = true := by cases hc : C j <;> simp_all
      have h1 := hy j hj hSj hCj
      have h2 : sumF (fun k => A j k * (y a - y k)) n = y a - sumF (fun k => A j k * y k) n := by
        have e : sumF (fun k => A j k * y a) n = y a := by rw [← sumF_mulr, hs.sum j hj, Rat.one_mul]
        have e3 : sumF (fun k => A j k * (y a - y k)) n = sumF (fun k => A j k * y a - A j k * y k) n := sumF_congr fun k _ => by grind
        rw [e3, sumF_sub, e]
      have hnn : ∀ k, k < n → 0 ≤ A j k * (y a - y k) := fun k hk => Rat.mul_nonneg (hs.nonneg j k hj hk) (by have := hm k hk; grind)
      have h0 : sumF (fun k => A j k * (y a - y k)) n = 0 := by
        refine Rat.le_antisymm ?_ (sumF_nonneg hnn)
        rw [h2]
        rw [ih] at h1
        grind
      have hz := sumF_zero_each hnn h0 k hk
      have hpos : 0 < A j k := of_decide_eq_true he
      rcases Rat.mul_eq_zero.1 hz with hh | hh
      · rw [hh] at hpos; exact absurd hpos (by decide)
      · grind
  have hCa : C a = true := by
    cases hc : C a with
    | true => rfl
    | false => exact absurd (hB a ha (.inr hc)) (Rat.not_le.2 hMB)
  obtain ⟨t, ht, hSt, hst⟩ := (hC a ha).1 hCa
  have := hB t ht (.inl hSt)
  rw [key t hst] at this
  exact Rat.not_lt.2 this hMB
theorem hit_row (i : Nat) (hi : i < n) : sumF (fun k => hitM n A S C i k * y k) n = if C i = true ∧ S i = false then y i - sumF (fun k => A i k * y k) n else y i := by
  have e : sumF (fun k => (if i = k then (1 : Rat) else 0) * y k) n = y i := by
    rw [sumF_single (i := i) (fun k _ hne => by rw [if_neg (Ne.symm hne), Rat.zero_mul]) hi, if_pos rfl, Rat.one_mul]
  split
  · rename_i hc
    conv => rhs; rw [← e]
    rw [← sumF_sub]
    refine sumF_congr fun k hk => ?_
    unfold hitM
    rw [if_neg (by omega), if_pos hc]
    grind
  · rename_i hc
    conv => rhs; rw [← e]
    refine sumF_congr fun k hk => ?_
    unfold hitM
    rw [if_neg (by omega), if_neg hc]
theorem hit_hom (hs : Sto n A) (hC : CanTo n A S C) (hy : Hom n (hitM n A S C) y) : ∀ k, k < n → y k = 0 := by
  have e1 : ∀ i, i < n → (S i = true ∨ C i = false) → y i = 0 := fun i hi hh => by
    have := hy i hi
    rwa [hit_row i hi, if_neg (fun ⟨a, b⟩ => by rcases hh with c | c <;> simp_all)] at this
  have e2 : ∀ i, i < n → S i = false → C i = true → y i = sumF (fun k => A i k * y k) n := fun i hi a b => by
    have := hy i hi
    rw [hit_row i hi, if_pos ⟨b, a⟩] at this
    grind
  have u1 := max_pr hs hC (B := 0) (y := y) (fun i hi hh => by rw [e1 i hi hh]; exact Rat.le_refl) (fun i hi a b => by rw [← e2 i hi a b]; exact Rat.le_refl)
  have u2 := max_pr hs hC (B := 0) (y := fun i => - y i) (fun i hi hh => by show - y i ≤ 0; rw [e1 i hi hh]; decide) (fun i hi a b => by
    have : sumF (fun k => A i k * - y k) n = - sumF (fun k => A i k * y k) n := by rw [← sumF_neg]; exact sumF_congr fun k _ => by grind
    show - y i ≤ sumF (fun k => A i k * - y k) n
    rw [this, ← e2 i hi a b]; exact Rat.le_refl)
  intro k hk
  have := u1 k hk
  have := u2 k hk
  grind
/-- What is likely to come there. -/
structure Hit (n : Nat) (A : Mx) (S C : Nat → Bool) (h : Nat → Rat) : Prop where
  there : ∀ i, i < n → S i = true → h i = 1
  never : ∀ i, i < n → C i = false → h i = 0
  next : ∀ i, i < n → S i = false → C i = true → h i = sumF (fun k => A i k * h k) n
theorem hit_gs (hs : Sto n A) (hC : CanTo n A S C) : ∃ M', gs n (hitM n A S C) n = some M' ∧ Hit n A S C (fun i => M' i n) := by
  obtain ⟨M', hM⟩ := gs_some (M := hitM n A S C) fun y hy => hit_hom hs hC hy
  have hsol := (gs_sol hM).2 fun i _ => rfl
  have hb : ∀ i, hitM n A S C i n = if S i = true then 1 else 0 := fun i => by unfold hitM; rw [if_pos rfl]
  refine ⟨M', hM, fun i hi hS => ?_, fun i hi hc => ?_, fun i hi hS hc => ?_⟩
  · have := hsol i hi
    rwa [hit_row i hi, if_neg (fun ⟨a, b⟩ => by simp_all), hb, if_pos hS] at this
  · have := hsol i hi
    have hS : ¬ S i = true := fun h => by have := hC.mem hi h; simp_all
    rwa [hit_row i hi, if_neg (fun ⟨a, b⟩ => by simp_all), hb, if_neg hS] at this
  · have := hsol i hi
    rw [hit_row i hi, if_pos ⟨hc, hS⟩, hb, if_neg (by simp [hS])] at this
    grind
theorem Hit.le (hh : Hit n A S C h) (hs : Sto n A) (hC : CanTo n A S C) : ∀ i, i < n → h i ≤ 1 :=
  max_pr hs hC (fun i hi c => by
    rcases c with c | c
    · rw [hh.there i hi c]; exact Rat.le_refl
    · rw [hh.never i hi c]; decide) fun i hi a b => by rw [← hh.next i hi a b]; exact Rat.le_refl
theorem Hit.ge (hh : Hit n A S C h) (hs : Sto n A) (hC : CanTo n A S C) : ∀ i, i < n → 0 ≤ h i := by
  have := max_pr hs hC (B := 0) (y := fun i => - h i) (fun i hi c => by
    show - h i ≤ 0
    rcases c with c | c
    · rw [hh.there i hi c]; decide
    · rw [hh.never i hi c]; decide) (fun i hi a b => by
    have e : sumF (fun k => A i k * - h k) n = - sumF (fun k => A i k * h k) n := by rw [← sumF_neg]; exact sumF_congr fun k _ => by grind
    show - h i ≤ sumF (fun k => A i k * - h k) n
    rw [e, ← hh.next i hi a b]; exact Rat.le_refl)
  intro i hi
  have := this i hi
  grind
theorem Hit.step (hh : Hit n A S C h) (hs : Sto n A) (hC : CanTo n A S C) : ∀ i, i < n → S i = false → h i = sumF (fun k => A i k * h k) n := fun i hi hS => by
  cases hc : C i with
  | true => exact hh.next i hi hS hc
  | false =>
    rw [hh.never i hi hc]
    refine ((sumF_congr fun k hk => ?_).trans (sumF_zero (n := n))).symm
    by_cases he : 0 < A i k
    · have : C k = false := by
        cases h' : C k with
        | false => rfl
        | true => have := hC.back hi hk he h'; simp_all
      rw [hh.never k hk this, Rat.mul_zero]
    · rw [show A i k = 0 from Rat.le_antisymm (Rat.not_lt.1 he) (hs.nonneg i k hi hk), Rat.zero_mul]
theorem Hit.pos (hh : Hit n A S C h) (hs : Sto n A) (hC : CanTo n A S C) {i : Nat} (hi : i < n) (hc : C i = true) : 0 < h i := by
  have key : ∀ j, Star n (posE A) i j → 0 < h j → 0 < h i := fun j hst => by
    induction hst with
    | refl => exact id
    | step hst hk he ih =>
      rename_i j k
      refine fun hp => ih ?_
      have hj := hst.lt hi
      cases hS : S j with
      | true => rw [hh.there j hj hS]; decide
      | false =>
        rw [hh.step hs hC j hj hS]
        have := sumF_ge (f := fun k => A j k * h k) (fun k hk => Rat.mul_nonneg (hs.nonneg j k hj hk) (hh.ge hs hC k hk)) hk
        exact Std.lt_of_lt_of_le (Rat.mul_pos (of_decide_eq_true he) hp) this
  obtain ⟨t, ht, hS, hst⟩ := (hC i hi).1 hc
  exact key t hst (by rw [hh.there t ht hS]; decide)
theorem Hit.zero (hh : Hit n A S C h) (hs : Sto n A) (hC : CanTo n A S C) {i : Nat} (hi : i < n) : (h i = 0) = (C i = false) := propext ⟨fun e => by
  cases hc : C i with
  | false => rfl
  | true => have := hh.pos hs hC hi hc; rw [e] at this; exact absurd this (by decide), hh.never i hi⟩
def lowF (n : Nat) (A : Mx) (S : Nat → Bool) : Nat → Nat → Rat
  | 0 => fun i => if S i = true then 1 else 0
  | k + 1 => fun i => if S i = true then 1 else sumF (fun j => A i j * lowF n A S k j) n
theorem Hit.low (hh : Hit n A S C h) (hs : Sto n A) (hC : CanTo n A S C) : ∀ k i, i < n → lowF n A S k i ≤ h i := by
  intro k
  induction k with
  | zero =>
    intro i hi
    show (if S i = true then (1 : Rat) else 0) ≤ h i
    split
    · rename_i hS; rw [hh.there i hi hS]; exact Rat.le_refl
    · exact hh.ge hs hC i hi
  | succ k ih =>
    intro i hi
    show (if S i = true then (1 : Rat) else sumF (fun j => A i j * lowF n A S k j) n) ≤ h i
    split
    · rename_i hS; rw [hh.there i hi hS]; exact Rat.le_refl
    · rename_i hS
      rw [hh.step hs hC i hi (by simpa using hS)]
      exact sumF_le fun j hj => Rat.mul_le_mul_of_nonneg_left (ih j hj) (hs.nonneg i j hi hj)
end
end Go.Proofs.YtabmgfchkcmcmaaDoor
