/- As much each way: a round is as likely one way round as the other; what is made even goes each way as much. Plain Lean. Conditions: none. -/
import Derived.Test.YtabmgfchkcmcmaaDoorZPowS
set_option linter.unusedVariables false
set_option linter.unusedSimpArgs false
namespace Go.Proofs.YtabmgfchkcmcmaaDoor
open Go Go.RowKit
theorem rat_cancel {a b c : Rat} (h : a ≠ 0) (e : a * b = a * c) : b = c := by
  have : a⁻¹ * (a * b) = a⁻¹ * (a * c) := by rw [e]
  rwa [← Rat.mul_assoc, ← Rat.mul_assoc, Rat.inv_mul_cancel _ h, Rat.one_mul, Rat.one_mul] at this
def prodF (f : Nat → Rat) : Nat → Rat
  | 0 => 1
  | n + 1 => prodF f n * f n
section
variable {n : Nat} {f g : Nat → Rat} {A : Mx} {p w : Nat → Rat}
theorem prodF_congr (h : ∀ k, k < n → f k = g k) : prodF f n = prodF g n := by
  induction n with
  | zero => rfl
  | succ n ih => show prodF f n * f n = prodF g n * g n; rw [ih fun k hk => h k (by omega), h n (by omega)]
theorem prodF_mul : prodF (fun k => f k * g k) n = prodF f n * prodF g n := by
  induction n with
  | zero => show (1 : Rat) = 1 * 1; rw [Rat.mul_one]
  | succ n ih => show prodF _ n * (f n * g n) = prodF f n * f n * (prodF g n * g n); rw [ih]; grind
theorem prodF_pos (h : ∀ k, k < n → 0 < f k) : 0 < prodF f n := by
  induction n with
  | zero => show (0 : Rat) < 1; decide
  | succ n ih => exact Rat.mul_pos (ih fun k hk => h k (by omega)) (h n (by omega))
theorem prodF_front : prodF f (n + 1) = f 0 * prodF (fun k => f (k + 1)) n := by
  induction n with
  | zero => show 1 * f 0 = f 0 * 1; grind
  | succ n ih => show prodF f (n + 1) * f (n + 1) = f 0 * (prodF (fun k => f (k + 1)) n * f (n + 1)); rw [ih]; grind
theorem prodF_turn : prodF (fun k => f ((k + 1) % n)) n = prodF f n := by
  cases n with
  | zero => rfl
  | succ n =>
    conv => rhs; rw [prodF_front]
    show prodF (fun k => f ((k + 1) % (n + 1))) n * f ((n + 1) % (n + 1)) = _
    rw [Nat.mod_self, Rat.mul_comm]
    congr 1
    exact prodF_congr fun k hk => by rw [Nat.mod_eq_of_lt (by omega)]
theorem round_eq {a : Nat → Nat} (hp : ∀ k, k < n → 0 < p (a k)) (h : ∀ i k, i < n → k < n → p (a i) * A (a i) (a k) = p (a k) * A (a k) (a i)) :
    prodF (fun k => A (a k) (a ((k + 1) % n))) n = prodF (fun k => A (a ((k + 1) % n)) (a k)) n := by
  have h1 : prodF (fun k => p (a k) * A (a k) (a ((k + 1) % n))) n = prodF (fun k => p (a ((k + 1) % n)) * A (a ((k + 1) % n)) (a k)) n := prodF_congr fun k hk => h k _ hk (Nat.mod_lt _ (by omega))
  rw [prodF_mul, prodF_mul (f := fun k => p (a ((k + 1) % n))), prodF_turn (f := fun k => p (a k))] at h1
  exact rat_cancel (Rat.ne_of_gt (prodF_pos hp)) h1
def evS (n : Nat) (A : Mx) (i : Nat) : Rat := sumF (fun j => A i j + A j i) n
def evM (n : Nat) (A : Mx) : Mx := fun i k => (A i k + A k i) / evS n A i
theorem evS_pos (hs : Sto n A) {i : Nat} (hi : i < n) : 0 < evS n A i := by
  unfold evS
  rw [sumF_add, hs.sum i hi]
  have : 0 ≤ sumF (fun j => A j i) n := sumF_nonneg fun j hj => hs.nonneg j i hj hi
  grind
theorem ev_sto (hs : Sto n A) : Sto n (evM n A) where
  nonneg i k hi hk := by
    unfold evM
    rw [Rat.div_def]
    have h1 := hs.nonneg i k hi hk
    have h2 := hs.nonneg k i hk hi
    have h3 := evS_pos hs hi
    exact Rat.mul_nonneg (by grind) (Rat.le_of_lt (Rat.inv_pos.2 h3))
  sum i hi := by
    have h3 := evS_pos hs hi
    have e : sumF (evM n A i) n = sumF (fun k => (A i k + A k i) * (evS n A i)⁻¹) n := sumF_congr fun k _ => by unfold evM; rw [Rat.div_def]
    rw [e, ← sumF_mulr]
    exact Rat.mul_inv_cancel _ (Rat.ne_of_gt h3)
theorem ev_sym (hs : Sto n A) {i k : Nat} (hi : i < n) (hk : k < n) : evS n A i * evM n A i k = evS n A k * evM n A k i := by
  have key : ∀ i k, i < n → evS n A i * evM n A i k = A i k + A k i := fun i k hi => by
    unfold evM
    rw [Rat.mul_comm]
    exact Rat.div_mul_cancel (Rat.ne_of_gt (evS_pos hs hi))
  rw [key i k hi, key k i hk]; grind
theorem star_symm {E : Bx} (h : ∀ i k, i < n → k < n → E i k = true → E k i = true) {i j : Nat} (hi : i < n) (hst : Star n E i j) : Star n E j i := by
  induction hst with
  | refl => exact .refl
  | step hst hk he ih => exact (Star.step .refl (hst.lt hi) (h _ _ (hst.lt hi) hk he)).trans ih
theorem even_rev (hirr : Irr n A) (hn : 0 < n) (hw : ∀ i, i < n → 0 < w i) (hsym : ∀ i k, i < n → k < n → w i * A i k = w k * A k i) (hp : Stat n A p) (h1 : sumF p n = 1) : ∀ i k, i < n → k < n → p i * A i k = p k * A k i := by
  have hW : 0 < sumF w n := by
    have := sumF_ge (f := w) (fun i hi => Rat.le_of_lt (hw i hi)) hn
    exact Std.lt_of_lt_of_le (hw 0 hn) this
  obtain ⟨c, hc⟩ : ∃ c, c = (sumF w n)⁻¹ := ⟨_, rfl⟩
  have hst : Stat n A fun i => w i * c := fun k hk => by
    have e : sumF (fun i => w i * c * A i k) n = sumF (fun i => (w k * c) * A k i) n := sumF_congr fun i hi => by
      have := hsym i k hi hk
      grind
    rw [e, ← sumF_mul]
    show w k * c * sumF (A k) n = _
    rw [hirr.sum k hk, Rat.mul_one]
  have hsum : sumF (fun i => w i * c) n = 1 := by rw [← sumF_mulr, hc]; exact Rat.mul_inv_cancel _ (Rat.ne_of_gt hW)
  have hu := stat_unique hirr hst hp (by rw [h1, hsum])
  intro i k hi hk
  have := hsym i k hi hk
  rw [hu i hi, hu k hk]
  grind
end
section
variable {n : Nat} {R : Bx}
theorem shut_pos {r : Nat} (p : Pre n R) (hr : r < n) (hc : clo n R r = true) : ∃ q s, q < (shutL n R n).length ∧ (shutL n R n).getD q false = true ∧ (repL n R n).getD q [] = cls n R s ∧ s < n ∧ s ∈ cls n R r ∧ isRep n R s = true := by
  obtain ⟨s, hs, hrep, hm⟩ := rep_ex p hr
  have hcs := clo_class p hr hm hc
  have hin : s ∈ (List.range n).filter (isRep n R) := List.mem_filter.2 ⟨List.mem_range.2 hs, hrep⟩
  obtain ⟨q, hq, e⟩ := List.getElem_of_mem hin
  have hlen : ((List.range n).filter (isRep n R)).length = (shutL n R n).length := by unfold shutL; rw [List.length_map]
  have hlen2 : ((List.range n).filter (isRep n R)).length = (repL n R n).length := by unfold repL; rw [List.length_map]
  refine ⟨q, s, by omega, ?_, ?_, hs, hm, hrep⟩
  · rw [lget_lt _ false (by omega)]; simp [shutL, e, hcs]
  · rw [lget_lt _ [] (by omega)]; simp [repL, e]
theorem uniq_closed {q : Nat} (p : Pre n R) (hall : ∀ j, j ≠ q → (shutL n R n).getD j false = false) {r s : Nat} (hr : r < n) (hs : s < n) (cr : clo n R r = true) (cs : clo n R s = true) : R r s = true := by
  obtain ⟨q1, r1, _, h1, e1, _, m1, _⟩ := shut_pos p hr cr
  obtain ⟨q2, s1, _, h2, e2, _, m2, _⟩ := shut_pos p hs cs
  have a1 : q1 = q := Classical.byContradiction fun hne => by rw [hall q1 hne] at h1; cases h1
  have a2 : q2 = q := Classical.byContradiction fun hne => by rw [hall q2 hne] at h2; cases h2
  rw [a1] at e1
  rw [a2, e1] at e2
  rw [cls_eq p hr m1, cls_eq p hs m2] at e2
  have := cls_self p hs
  rw [← e2] at this
  exact (cls_mem.1 this).2.1
theorem ev_irr {A : Mx} {q : Nat} (hn0 : ∀ i k, 0 ≤ A i k) (hs : Sto n A) (hE : ∀ i k, i < n → k < n → 0 < A i k → 0 < A k i)
    (hall : ∀ j, j ≠ q → (shutL n (wsh (posE A) n) n).getD j false = false) : Irr n A := by
  have hsym : ∀ i k, i < n → k < n → wsh (posE A) n i k = true → wsh (posE A) n k i = true := fun i k hi hk h =>
    (wsh_iff hk hi).2 (star_symm (fun i k hi hk he => decide_eq_true (hE i k hi hk (of_decide_eq_true he))) hi ((wsh_iff hi hk).1 h))
  have hclo : ∀ i, i < n → clo n (wsh (posE A) n) i = true := fun i hi => clo_iff.2 fun k hk h => hsym i k hi hk h
  exact ⟨hn0, fun i hi => hs.sum i hi, fun i k hi hk => (wsh_iff hi hk).1 (uniq_closed wsh_pre hall hi hk (hclo i hi) (hclo k hk))⟩
end
end Go.Proofs.YtabmgfchkcmcmaaDoor
