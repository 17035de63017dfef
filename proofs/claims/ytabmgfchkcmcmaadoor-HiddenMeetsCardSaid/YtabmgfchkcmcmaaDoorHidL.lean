/- Hidden chains, in plain Lean: what is behind and ahead make the same at each step; no way is likelier than the path. No program in sight. Conditions: none. -/
import Derived.Test.YtabmgfchkcmcmaaDoorFill
set_option linter.unusedVariables false
set_option linter.unusedSimpArgs false
namespace Go.Proofs.YtabmgfchkcmcmaaDoor
open Go Go.RowKit
/-! ### Sums and greatest numbers -/
def sumF (f : Nat → Rat) : Nat → Rat
  | 0 => 0
  | n + 1 => sumF f n + f n
def grt (a b : Rat) : Rat := if a < b then b else a
def maxF (f : Nat → Rat) : Nat → Rat
  | 0 => 0
  | n + 1 => grt (maxF f n) (f n)
section
variable {f g : Nat → Rat} {n m : Nat}
theorem sumF_congr (h : ∀ k, k < n → f k = g k) : sumF f n = sumF g n := by
  induction n with
  | zero => rfl
  | succ n ih => show sumF f n + f n = sumF g n + g n; rw [ih fun k hk => h k (by omega), h n (by omega)]
theorem sumF_zero : sumF (fun _ => 0) n = 0 := by
  induction n with
  | zero => rfl
  | succ n ih => show sumF _ n + 0 = 0; rw [ih, Rat.add_zero]
theorem sumF_add : sumF (fun k => f k + g k) n = sumF f n + sumF g n := by
  induction n with
  | zero => exact (Rat.add_zero 0).symm
  | succ n ih => show sumF _ n + (f n + g n) = (sumF f n + f n) + (sumF g n + g n); rw [ih]; grind
theorem sumF_mul (c : Rat) : c * sumF f n = sumF (fun k => c * f k) n := by
  induction n with
  | zero => exact Rat.mul_zero c
  | succ n ih => show c * (sumF f n + f n) = sumF _ n + c * f n; rw [Rat.mul_add, ih]
theorem sumF_mulr (c : Rat) : sumF f n * c = sumF (fun k => f k * c) n := by rw [Rat.mul_comm, sumF_mul]; exact sumF_congr fun k _ => Rat.mul_comm _ _
theorem sumF_swap {h : Nat → Nat → Rat} : sumF (fun i => sumF (fun k => h i k) m) n = sumF (fun k => sumF (fun i => h i k) n) m := by
  induction n with
  | zero => exact sumF_zero.symm
  | succ n ih => show sumF _ n + sumF _ m = _; rw [ih, ← sumF_add]; rfl
theorem sumF_nonneg (h : ∀ k, k < n → 0 ≤ f k) : 0 ≤ sumF f n := by
  induction n with
  | zero => exact Rat.le_refl
  | succ n ih => exact Rat.add_nonneg (ih fun k hk => h k (by omega)) (h n (by omega))
theorem sumF_le (h : ∀ k, k < n → f k ≤ g k) : sumF f n ≤ sumF g n := by
  induction n with
  | zero => exact Rat.le_refl
  | succ n ih =>
    have h1 := ih fun k hk => h k (by omega)
    have h2 := h n (by omega)
    show sumF f n + f n ≤ sumF g n + g n
    grind
theorem sumF_eq_zero (h : ∀ k, k < n → f k = 0) : sumF f n = 0 := by rw [sumF_congr h]; exact sumF_zero
theorem maxF_congr (h : ∀ k, k < n → f k = g k) : maxF f n = maxF g n := by
  induction n with
  | zero => rfl
  | succ n ih => show grt (maxF f n) (f n) = grt (maxF g n) (g n); rw [ih fun k hk => h k (by omega), h n (by omega)]
theorem maxF_nonneg : 0 ≤ maxF f n := by
  induction n with
  | zero => exact Rat.le_refl
  | succ n ih =>
    show 0 ≤ grt (maxF f n) (f n)
    unfold grt
    split <;> grind
theorem maxF_ge {k : Nat} (h : k < n) : f k ≤ maxF f n := by
  induction n with
  | zero => omega
  | succ n ih =>
    show f k ≤ grt (maxF f n) (f n)
    unfold grt
    by_cases e : k = n
    · subst e; split <;> grind
    · have := ih (by omega); split <;> grind
theorem maxF_att (h : maxF f n ≠ 0) : ∃ k, k < n ∧ f k = maxF f n := by
  induction n with
  | zero => exact absurd rfl h
  | succ n ih =>
    have e : maxF f (n + 1) = grt (maxF f n) (f n) := rfl
    rw [e] at h ⊢
    unfold grt at h ⊢
    split
    · exact ⟨n, by omega, rfl⟩
    · rename_i hn
      rw [if_neg hn] at h
      obtain ⟨k, hk, hf⟩ := ih h
      exact ⟨k, by omega, hf⟩
theorem maxF_le (h : ∀ k, k < n → f k ≤ g k) (h0 : ∀ k, k < n → 0 ≤ g k) : maxF f n ≤ sumF g n := by
  induction n with
  | zero => exact Rat.le_refl
  | succ n ih =>
    have h1 := ih (fun k hk => h k (by omega)) fun k hk => h0 k (by omega)
    have h2 := h n (by omega)
    have h3 := h0 n (by omega)
    have h4 : 0 ≤ sumF g n := sumF_nonneg fun k hk => h0 k (by omega)
    show grt (maxF f n) (f n) ≤ sumF g n + g n
    unfold grt
    split <;> grind
end
/-! ### A hidden chain, and what is seen of it -/
structure HM where
  n : Nat
  a : Nat → Rat
  mv : Nat → Nat → Rat
  sh : Nat → Nat → Rat
  s : Nat → Nat
  T : Nat
structure HM.Ok (h : HM) : Prop where
  a : ∀ i, 0 ≤ h.a i
  mv : ∀ i k, 0 ≤ h.mv i k
  sh : ∀ i k, 0 ≤ h.sh i k
def HM.fw (h : HM) : Nat → Nat → Rat
  | 0, i => h.a i * h.sh i (h.s 0)
  | t + 1, i => sumF (fun k => HM.fw h t k * h.mv k i) h.n * h.sh i (h.s (t + 1))
/-- u steps ahead of the end. -/
def HM.bwU (h : HM) : Nat → Nat → Rat
  | 0, i => 1
  | u + 1, i => sumF (fun k => h.mv i k * h.sh k (h.s (h.T - 1 - u)) * HM.bwU h u k) h.n
def HM.mxU (h : HM) : Nat → Nat → Rat
  | 0, i => 1
  | u + 1, i => maxF (fun k => h.mv i k * h.sh k (h.s (h.T - 1 - u)) * HM.mxU h u k) h.n
def HM.bw (h : HM) (t i : Nat) : Rat := h.bwU (h.T - 1 - t) i
def HM.mx (h : HM) (t i : Nat) : Rat := h.mxU (h.T - 1 - t) i
def HM.best (h : HM) : Rat := if h.T = 0 then 1 else maxF (fun i => h.a i * h.sh i (h.s 0) * h.mx 0 i) h.n
def HM.lik (h : HM) : Rat := if h.T = 0 then 1 else sumF (h.fw (h.T - 1)) h.n
/-- How likely the first t steps of a way are, with what is seen. -/
def HM.wv (h : HM) (p : Nat → Nat) : Nat → Rat
  | 0 => 1
  | t + 1 => HM.wv h p t * (if t = 0 then h.a (p 0) else h.mv (p (t - 1)) (p t)) * h.sh (p t) (h.s t)
section
variable {h : HM} {t i : Nat}
theorem HM.bw_last (ht : t + 1 = h.T) : h.bw t i = 1 := by unfold HM.bw; rw [show h.T - 1 - t = 0 by omega]; rfl
theorem HM.bw_next (ht : t + 1 < h.T) : h.bw t i = sumF (fun k => h.mv i k * h.sh k (h.s (t + 1)) * h.bw (t + 1) k) h.n := by
  unfold HM.bw
  rw [show h.T - 1 - t = (h.T - 1 - (t + 1)) + 1 by omega]
  show sumF _ _ = _
  rw [show h.T - 1 - (h.T - 1 - (t + 1)) = t + 1 by omega]
theorem HM.mx_last (ht : t + 1 = h.T) : h.mx t i = 1 := by unfold HM.mx; rw [show h.T - 1 - t = 0 by omega]; rfl
theorem HM.mx_next (ht : t + 1 < h.T) : h.mx t i = maxF (fun k => h.mv i k * h.sh k (h.s (t + 1)) * h.mx (t + 1) k) h.n := by
  unfold HM.mx
  rw [show h.T - 1 - t = (h.T - 1 - (t + 1)) + 1 by omega]
  show maxF _ _ = _
  rw [show h.T - 1 - (h.T - 1 - (t + 1)) = t + 1 by omega]
theorem HM.step (ht : t + 1 < h.T) : sumF (fun i => h.fw t i * h.bw t i) h.n = sumF (fun i => h.fw (t + 1) i * h.bw (t + 1) i) h.n := by
  have e1 : sumF (fun i => h.fw t i * h.bw t i) h.n = sumF (fun i => sumF (fun k => h.fw t i * h.mv i k * h.sh k (h.s (t + 1)) * h.bw (t + 1) k) h.n) h.n :=
    sumF_congr fun i _ => by rw [HM.bw_next ht, sumF_mul]; exact sumF_congr fun k _ => by simp only [Rat.mul_assoc]
  rw [e1, sumF_swap]
  refine sumF_congr fun k _ => ?_
  show _ = sumF (fun i => h.fw t i * h.mv i k) h.n * h.sh k (h.s (t + 1)) * h.bw (t + 1) k
  rw [sumF_mulr, sumF_mulr]
theorem HM.meets (ht : t < h.T) : sumF (fun i => h.fw t i * h.bw t i) h.n = h.lik := by
  have key : ∀ u t, t + u + 1 = h.T → sumF (fun i => h.fw t i * h.bw t i) h.n = h.lik := by
    intro u
    induction u with
    | zero =>
      intro t ht
      unfold HM.lik
      rw [if_neg (by omega), show h.T - 1 = t by omega]
      exact sumF_congr fun i _ => by rw [HM.bw_last (by omega), Rat.mul_one]
    | succ u ih => intro t ht; rw [HM.step (by omega)]; exact ih (t + 1) (by omega)
  exact key (h.T - 1 - t) t (by omega)
theorem HM.bwU_nonneg (ok : h.Ok) : ∀ u i, 0 ≤ h.bwU u i := by
  intro u
  induction u with
  | zero => intro i; show (0 : Rat) ≤ 1; decide
  | succ u ih => intro i; exact sumF_nonneg fun k _ => Rat.mul_nonneg (Rat.mul_nonneg (ok.mv _ _) (ok.sh _ _)) (ih k)
theorem HM.mxU_nonneg (ok : h.Ok) : ∀ u i, 0 ≤ h.mxU u i := by
  intro u
  cases u with
  | zero => intro i; show (0 : Rat) ≤ 1; decide
  | succ u => intro i; exact maxF_nonneg
theorem HM.mxU_le (ok : h.Ok) : ∀ u i, h.mxU u i ≤ h.bwU u i := by
  intro u
  induction u with
  | zero => intro i; exact Rat.le_refl
  | succ u ih =>
    intro i
    refine maxF_le (fun k _ => ?_) fun k _ => ?_
    · exact Rat.mul_le_mul_of_nonneg_left (ih k) (Rat.mul_nonneg (ok.mv _ _) (ok.sh _ _))
    · exact Rat.mul_nonneg (Rat.mul_nonneg (ok.mv _ _) (ok.sh _ _)) (HM.bwU_nonneg ok u k)
theorem mul_zero_of {c x y : Rat} (h0 : c * x = 0) (h : x = 0 → y = 0) : c * y = 0 := by
  rcases Rat.mul_eq_zero.1 h0 with e | e
  · rw [e, Rat.zero_mul]
  · rw [h e, Rat.mul_zero]
theorem max_zero_sum {n : Nat} {c x y : Nat → Rat} (hc : ∀ k, 0 ≤ c k) (hx : ∀ k, 0 ≤ x k) (h0 : maxF (fun k => c k * x k) n = 0) (h : ∀ k, x k = 0 → y k = 0) : sumF (fun k => c k * y k) n = 0 :=
  sumF_eq_zero fun k hk => mul_zero_of (Rat.le_antisymm (by have := maxF_ge (f := fun k => c k * x k) hk; rw [h0] at this; exact this) (Rat.mul_nonneg (hc k) (hx k))) (h k)
theorem HM.bwU_zero (ok : h.Ok) : ∀ u i, h.mxU u i = 0 → h.bwU u i = 0 := by
  intro u
  induction u with
  | zero => intro i e; exact e
  | succ u ih =>
    intro i e
    exact max_zero_sum (fun k => Rat.mul_nonneg (ok.mv _ _) (ok.sh _ _)) (fun k => HM.mxU_nonneg ok u k) e ih
theorem HM.lik_zero (h0 : 0 < h.T) : h.lik = sumF (fun i => h.a i * h.sh i (h.s 0) * h.bw 0 i) h.n := (HM.meets (t := 0) h0).symm
theorem HM.best_le (ok : h.Ok) : h.best ≤ h.lik := by
  by_cases h0 : h.T = 0
  · unfold HM.best HM.lik; rw [if_pos h0, if_pos h0]; exact Rat.le_refl
  · rw [HM.lik_zero (by omega)]
    unfold HM.best
    rw [if_neg h0]
    exact maxF_le (fun k _ => Rat.mul_le_mul_of_nonneg_left (HM.mxU_le ok _ k) (Rat.mul_nonneg (ok.a _) (ok.sh _ _))) fun k _ => Rat.mul_nonneg (Rat.mul_nonneg (ok.a _) (ok.sh _ _)) (HM.bwU_nonneg ok _ k)
theorem HM.best_nonneg : 0 ≤ h.best := by
  unfold HM.best
  split
  · decide
  · exact maxF_nonneg
theorem HM.best_zero (ok : h.Ok) : h.best = 0 ↔ h.lik = 0 := by
  constructor
  · intro e
    by_cases h0 : h.T = 0
    · unfold HM.best at e; rw [if_pos h0] at e; exact absurd e (by decide)
    · rw [HM.lik_zero (by omega)]
      unfold HM.best at e
      rw [if_neg h0] at e
      exact max_zero_sum (fun k => Rat.mul_nonneg (ok.a _) (ok.sh _ _)) (fun k => HM.mxU_nonneg ok _ k) e fun k hk => HM.bwU_zero ok _ k hk
  · intro e
    have := HM.best_le ok
    rw [e] at this
    exact Rat.le_antisymm this HM.best_nonneg
theorem HM.wv_nonneg (ok : h.Ok) {p : Nat → Nat} : ∀ t, 0 ≤ h.wv p t := by
  intro t
  induction t with
  | zero => show (0 : Rat) ≤ 1; decide
  | succ t ih =>
    refine Rat.mul_nonneg (Rat.mul_nonneg ih ?_) (ok.sh _ _)
    split
    · exact ok.a _
    · exact ok.mv _ _
theorem HM.wv_le (ok : h.Ok) {p : Nat → Nat} (hp : ∀ j, p j < h.n) : ∀ t, t + 1 ≤ h.T → h.wv p (t + 1) * h.mx t (p t) ≤ h.best := by
  intro t
  induction t with
  | zero =>
    intro ht
    unfold HM.best
    rw [if_neg (by omega)]
    show 1 * h.a (p 0) * h.sh (p 0) (h.s 0) * h.mx 0 (p 0) ≤ _
    rw [Rat.one_mul]
    exact maxF_ge (f := fun i => h.a i * h.sh i (h.s 0) * h.mx 0 i) (hp 0)
  | succ t ih =>
    intro ht
    refine Rat.le_trans ?_ (ih (by omega))
    show h.wv p (t + 1) * (if t + 1 = 0 then h.a (p 0) else h.mv (p (t + 1 - 1)) (p (t + 1))) * h.sh (p (t + 1)) (h.s (t + 1)) * h.mx (t + 1) (p (t + 1)) ≤ _
    rw [if_neg (by omega), show t + 1 - 1 = t by omega]
    have e : h.wv p (t + 1) * h.mv (p t) (p (t + 1)) * h.sh (p (t + 1)) (h.s (t + 1)) * h.mx (t + 1) (p (t + 1)) = h.wv p (t + 1) * (h.mv (p t) (p (t + 1)) * h.sh (p (t + 1)) (h.s (t + 1)) * h.mx (t + 1) (p (t + 1))) := by simp only [Rat.mul_assoc]
    rw [e, HM.mx_next (t := t) (by omega)]
    exact Rat.mul_le_mul_of_nonneg_left (maxF_ge (f := fun k => h.mv (p t) k * h.sh k (h.s (t + 1)) * h.mx (t + 1) k) (hp (t + 1))) (HM.wv_nonneg ok _)
/-- No way is likelier than the best. -/
theorem HM.way_le (ok : h.Ok) {p : Nat → Nat} (hp : ∀ j, p j < h.n) : h.wv p h.T ≤ h.best := by
  by_cases h0 : h.T = 0
  · unfold HM.best; rw [if_pos h0, h0]; exact Rat.le_refl
  · have := HM.wv_le ok hp (h.T - 1) (by omega)
    rw [show h.T - 1 + 1 = h.T by omega, HM.mx_last (by omega), Rat.mul_one] at this
    exact this
/-- The first step of the path. -/
theorem HM.att0 (h0 : 0 < h.T) (hb : h.best ≠ 0) : ∃ k, k < h.n ∧ 1 * h.a k * h.sh k (h.s 0) * h.mx 0 k = h.best := by
  unfold HM.best at hb ⊢
  rw [if_neg (by omega)] at hb ⊢
  obtain ⟨k, hk, e⟩ := maxF_att hb
  exact ⟨k, hk, by rw [Rat.one_mul]; exact e⟩
/-- One step more. -/
theorem HM.att1 {so : Rat} (ht : t + 1 < h.T) (hb : h.best ≠ 0) (hs : so * h.mx t i = h.best) : ∃ k, k < h.n ∧ so * h.mv i k * h.sh k (h.s (t + 1)) * h.mx (t + 1) k = h.best := by
  rw [HM.mx_next ht] at hs
  have hm : maxF (fun k => h.mv i k * h.sh k (h.s (t + 1)) * h.mx (t + 1) k) h.n ≠ 0 := fun e => by rw [e, Rat.mul_zero] at hs; exact hb hs.symm
  obtain ⟨k, hk, e⟩ := maxF_att hm
  refine ⟨k, hk, ?_⟩
  rw [← hs, ← e]
  simp only [Rat.mul_assoc]
end
end Go.Proofs.YtabmgfchkcmcmaaDoor
