/- Linear equations by elimination, in plain Lean: what is found is the only answer; and where none is found, there is something else than nothing that goes to nothing. No program in sight. Conditions: none. -/
import Derived.Test.YtabmgfchkcmcmaaDoorZHidL
set_option linter.unusedVariables false
set_option linter.unusedSimpArgs false
namespace Go.Proofs.YtabmgfchkcmcmaaDoor
open Go Go.RowKit
abbrev Mx := Nat → Nat → Rat
def piv (M : Mx) (c n : Nat) : Option Nat := (List.range (n - c)).find? fun p => decide (M (c + p) c ≠ 0)
def swapM (M : Mx) (c r : Nat) : Mx := fun i k => if i = c then M r k else if i = r then M c k else M i k
def divM (M : Mx) (c : Nat) : Mx := fun i k => if i = c then M c k / M c c else M i k
def elimM (M : Mx) (c : Nat) : Mx := fun i k => if i = c then M c k else M i k - M i c * M c k
def stepM (M : Mx) (c r : Nat) : Mx := elimM (divM (swapM M c r) c) c
def gs (n : Nat) (M : Mx) : Nat → Option Mx
  | 0 => some M
  | c + 1 => match gs n M c with
    | none => none
    | some M' => match piv M' c n with
      | none => none
      | some p => some (stepM M' c (c + p))
def Ann (n : Nat) (M : Mx) (y : Nat → Rat) : Prop := ∀ i, i < n → sumF (fun k => M i k * y k) (n + 1) = 0
def Sol (n : Nat) (M : Mx) (x : Nat → Rat) : Prop := ∀ i, i < n → sumF (fun k => M i k * x k) n = M i n
def Hom (n : Nat) (M : Mx) (x : Nat → Rat) : Prop := ∀ i, i < n → sumF (fun k => M i k * x k) n = 0
section
variable {n c r : Nat} {M : Mx} {y x : Nat → Rat}
theorem sumF_sub {f g : Nat → Rat} {n : Nat} : sumF (fun k => f k - g k) n = sumF f n - sumF g n := by
  induction n with
  | zero => show (0 : Rat) = 0 - 0; grind
  | succ n ih => show sumF _ n + (f n - g n) = (sumF f n + f n) - (sumF g n + g n); rw [ih]; grind
theorem ann_swap (hc : c < n) (hr : r < n) (h : Ann n M y) : Ann n (swapM M c r) y := fun i hi => by
  by_cases e : i = c
  · have := h r hr
    rw [← this]
    exact sumF_congr fun k _ => by simp [swapM, e]
  · by_cases e2 : i = r
    · have := h c hc
      rw [← this]
      refine sumF_congr fun k _ => ?_
      show swapM M c r i k * _ = _
      unfold swapM
      rw [if_neg e, if_pos e2]
    · have := h i hi
      rw [← this]
      exact sumF_congr fun k _ => by simp [swapM, e, e2]
theorem swap_swap : swapM (swapM M c r) c r = M := by
  funext i k
  unfold swapM
  by_cases e : i = c
  · subst e
    by_cases e2 : r = i
    · subst e2; simp
    · simp [e2]
  · by_cases e2 : i = r
    · subst e2; simp [e]
    · simp [e, e2]
theorem ann_swap_iff (hc : c < n) (hr : r < n) : Ann n (swapM M c r) y ↔ Ann n M y := ⟨fun h => by
  have := ann_swap hc hr h
  rwa [swap_swap] at this, ann_swap hc hr⟩
theorem ann_div_iff (hc : c < n) (h0 : M c c ≠ 0) : Ann n (divM M c) y ↔ Ann n M y := by
  have e : ∀ i, sumF (fun k => divM M c i k * y k) (n + 1) = if i = c then sumF (fun k => M c k * y k) (n + 1) * (M c c)⁻¹ else sumF (fun k => M i k * y k) (n + 1) := fun i => by
    by_cases e : i = c
    · rw [if_pos e, sumF_mulr]
      refine sumF_congr fun k _ => ?_
      unfold divM
      rw [if_pos e, Rat.div_def]
      show M c k * (M c c)⁻¹ * y k = M c k * y k * (M c c)⁻¹
      grind
    · rw [if_neg e]; exact sumF_congr fun k _ => by unfold divM; rw [if_neg e]
  constructor
  · intro h i hi
    have := h i hi
    rw [e i] at this
    by_cases ei : i = c
    · rw [if_pos ei] at this
      rw [ei]
      rcases Rat.mul_eq_zero.1 this with h | h
      · exact h
      · exact absurd (by have := Rat.mul_inv_cancel _ h0; rw [h, Rat.mul_zero] at this; exact this) (show ¬ (0 : Rat) = 1 by decide)
    · rwa [if_neg ei] at this
  · intro h i hi
    rw [e i]
    split
    · rw [h c hc, Rat.zero_mul]
    · exact h i hi
theorem ann_elim_iff (hc : c < n) : Ann n (elimM M c) y ↔ Ann n M y := by
  have e : ∀ i, i ≠ c → sumF (fun k => elimM M c i k * y k) (n + 1) = sumF (fun k => M i k * y k) (n + 1) - M i c * sumF (fun k => M c k * y k) (n + 1) := fun i e => by
    rw [sumF_mul, ← sumF_sub]
    refine sumF_congr fun k _ => ?_
    unfold elimM
    rw [if_neg e]
    grind
  have e2 : sumF (fun k => elimM M c c k * y k) (n + 1) = sumF (fun k => M c k * y k) (n + 1) := sumF_congr fun k _ => by unfold elimM; rw [if_pos rfl]
  constructor
  · intro h i hi
    have hcc := h c hc
    rw [e2] at hcc
    by_cases ei : i = c
    · rw [ei]; exact hcc
    · have := h i hi
      rw [e i ei, hcc, Rat.mul_zero] at this
      grind
  · intro h i hi
    by_cases ei : i = c
    · rw [ei, e2]; exact h c hc
    · rw [e i ei, h i hi, h c hc, Rat.mul_zero]; grind
theorem piv_some {p : Nat} (h : piv M c n = some p) : c + p < n ∧ M (c + p) c ≠ 0 := by
  unfold piv at h
  have h1 := List.find?_some h
  have h2 := List.mem_range.1 (List.mem_of_find?_eq_some h)
  exact ⟨by omega, by simpa using h1⟩
theorem piv_none (h : piv M c n = none) : ∀ i, c ≤ i → i < n → M i c = 0 := fun i hi hn => by
  unfold piv at h
  have := List.find?_eq_none.1 h (i - c) (by simp; omega)
  rw [show c + (i - c) = i by omega] at this
  simpa using this
theorem ann_step {p : Nat} (h : piv M c n = some p) (hc : c < n) : Ann n (stepM M c (c + p)) y ↔ Ann n M y := by
  obtain ⟨h1, h2⟩ := piv_some h
  unfold stepM
  rw [ann_elim_iff hc, ann_div_iff hc (by unfold swapM; rw [if_pos rfl]; exact h2), ann_swap_iff hc h1]
theorem ann_gs : ∀ {c : Nat} {M' : Mx}, c ≤ n → gs n M c = some M' → (Ann n M' y ↔ Ann n M y) := by
  intro c
  induction c with
  | zero => intro M' _ h; cases h; exact Iff.rfl
  | succ c ih =>
    intro M' hc h
    unfold gs at h
    split at h
    · cases h
    · rename_i M1 h1
      split at h
      · cases h
      · rename_i p hp
        cases h
        rw [ann_step hp (by omega)]
        exact ih (by omega) h1
def Unit_ (n : Nat) (M : Mx) (c : Nat) : Prop := ∀ i j, i < n → j < c → M i j = if i = j then 1 else 0
theorem unit_step {p : Nat} (hp : piv M c n = some p) (hc : c < n) (hu : Unit_ n M c) : Unit_ n (stepM M c (c + p)) (c + 1) := by
  obtain ⟨h1, h2⟩ := piv_some hp
  have sc : swapM M c (c + p) c c = M (c + p) c := by unfold swapM; rw [if_pos rfl]
  have dc : ∀ k, divM (swapM M c (c + p)) c c k = M (c + p) k / M (c + p) c := fun k => by unfold divM; rw [if_pos rfl, sc]; unfold swapM; rw [if_pos rfl]
  have di : ∀ i k, i ≠ c → divM (swapM M c (c + p)) c i k = swapM M c (c + p) i k := fun i k e => by unfold divM; rw [if_neg e]
  intro i j hi hj
  unfold stepM elimM
  by_cases ei : i = c
  · rw [if_pos ei, dc]
    by_cases ej : j = c
    · subst ej
      rw [if_pos ei, Rat.div_def, Rat.mul_inv_cancel _ h2]
    · rw [if_neg (by omega), hu (c + p) j h1 (by omega), if_neg (by omega), Rat.div_def, Rat.zero_mul]
  · rw [if_neg ei, di _ _ ei, di _ _ ei, dc]
    by_cases ej : j = c
    · subst ej
      rw [Rat.div_def, Rat.mul_inv_cancel _ h2, Rat.mul_one, if_neg ei]
      grind
    · have hcp := hu (c + p) j h1 (by omega)
      rw [if_neg (by omega)] at hcp
      rw [hcp, Rat.div_def, Rat.zero_mul, Rat.mul_zero]
      have : swapM M c (c + p) i j = if i = j then 1 else 0 := by
        unfold swapM
        rw [if_neg ei]
        split
        · rename_i e
          rw [hu c j hc (by omega), if_neg (by omega), if_neg (by omega)]
        · exact hu i j hi (by omega)
      rw [this]
      split <;> grind
theorem unit_gs : ∀ {c : Nat} {M' : Mx}, c ≤ n → gs n M c = some M' → Unit_ n M' c := by
  intro c
  induction c with
  | zero => intro M' _ _ i j _ hj; omega
  | succ c ih =>
    intro M' hc h
    unfold gs at h
    split at h
    · cases h
    · rename_i M1 h1
      split at h
      · cases h
      · rename_i p hp
        cases h
        exact unit_step hp (by omega) (ih (by omega) h1)
theorem sumF_single {f : Nat → Rat} {i : Nat} (h : ∀ k, k < n → k ≠ i → f k = 0) (hi : i < n) : sumF f n = f i := by
  induction n with
  | zero => omega
  | succ n ih =>
    show sumF f n + f n = f i
    by_cases e : i = n
    · subst e
      rw [sumF_eq_zero fun k hk => h k (by omega) (by omega)]
      grind
    · rw [ih (fun k hk hne => h k (by omega) hne) (by omega), h n (by omega) (fun e' => e e'.symm)]
      grind
theorem ann_sol : Ann n M (fun k => if k = n then -1 else x k) ↔ Sol n M x := by
  have e : ∀ i, sumF (fun k => M i k * (if k = n then (-1 : Rat) else x k)) (n + 1) = sumF (fun k => M i k * x k) n - M i n := fun i => by
    show sumF _ n + M i n * (if n = n then (-1 : Rat) else x n) = _
    rw [if_pos rfl, sumF_congr (g := fun k => M i k * x k) fun k hk => by rw [if_neg (by omega)]]
    grind
  constructor
  · intro h i hi; have := h i hi; rw [e i] at this; grind
  · intro h i hi; rw [e i, h i hi]; grind
theorem ann_hom : Ann n M (fun k => if k = n then 0 else x k) ↔ Hom n M x := by
  have e : ∀ i, sumF (fun k => M i k * (if k = n then (0 : Rat) else x k)) (n + 1) = sumF (fun k => M i k * x k) n := fun i => by
    show sumF _ n + M i n * (if n = n then (0 : Rat) else x n) = _
    rw [if_pos rfl, sumF_congr (g := fun k => M i k * x k) fun k hk => by rw [if_neg (by omega)]]
    grind
  constructor
  · intro h i hi; have := h i hi; rwa [e i] at this
  · intro h i hi; rw [e i, h i hi]
theorem unit_sol (hu : Unit_ n M n) : Sol n M x ↔ ∀ i, i < n → x i = M i n := by
  have e : ∀ i, i < n → sumF (fun k => M i k * x k) n = x i := fun i hi => by
    rw [sumF_single (i := i) (fun k hk hne => by rw [hu i k hi hk, if_neg (Ne.symm hne), Rat.zero_mul]) hi, hu i i hi hi, if_pos rfl, Rat.one_mul]
  exact ⟨fun h i hi => by rw [← e i hi]; exact h i hi, fun h i hi => by rw [e i hi]; exact h i hi⟩
theorem gs_sol {M' : Mx} (h : gs n M n = some M') : Sol n M x ↔ ∀ i, i < n → x i = M' i n := by
  rw [← ann_sol, ← ann_gs (Nat.le_refl _) h, ann_sol]
  exact unit_sol (unit_gs (Nat.le_refl _) h)
theorem gs_none : ∀ {c : Nat}, c ≤ n → gs n M c = none → ∃ y, Hom n M y ∧ ∃ k, k < n ∧ y k ≠ 0 := by
  intro c
  induction c with
  | zero => intro _ h; cases h
  | succ c ih =>
    intro hc h
    unfold gs at h
    split at h
    · rename_i h1; exact ih (by omega) h1
    · rename_i M1 h1
      split at h
      · rename_i hp
        have hu := unit_gs (c := c) (by omega) h1
        have hz := piv_none hp
        let y : Nat → Rat := fun k => if k = c then 1 else if k < c then - M1 k c else 0
        refine ⟨y, ?_, c, by omega, by show (if c = c then (1 : Rat) else _) ≠ 0; rw [if_pos rfl]; decide⟩
        rw [← ann_hom, ← ann_gs (c := c) (by omega) h1, ann_hom]
        intro i hi
        by_cases hic : i < c
        · have e : ∀ m, m ≤ n → sumF (fun k => M1 i k * y k) m = (if i < m then y i else 0) + (if c < m then M1 i c else 0) := by
            intro m
            induction m with
            | zero => intro _; show (0 : Rat) = _; rw [if_neg (by omega), if_neg (by omega)]; grind
            | succ m ihm =>
              intro hm
              show sumF _ m + M1 i m * y m = _
              rw [ihm (by omega)]
              by_cases e1 : m < c
              · rw [hu i m hi e1]
                by_cases e2 : i = m
                · subst e2
                  rw [if_pos rfl, if_neg (by omega), if_neg (by omega), if_pos (by omega), if_neg (by omega)]
                  grind
                · rw [if_neg e2]
                  have a1 : (i < m + 1) = (i < m) := propext ⟨fun h => by omega, fun h => by omega⟩
                  have a2 : (c < m + 1) = (c < m) := propext ⟨fun h => by omega, fun h => by omega⟩
                  simp only [a1, a2]
                  grind
              · by_cases e2 : m = c
                · subst e2
                  have hy : y m = 1 := by show (if m = m then (1 : Rat) else _) = 1; rw [if_pos rfl]
                  rw [hy, if_pos hic, if_neg (by omega), if_pos (by omega), if_pos (by omega)]
                  grind
                · have hy : y m = 0 := by show (if m = c then (1 : Rat) else if m < c then _ else 0) = 0; rw [if_neg e2, if_neg e1]
                  have a1 : (i < m + 1) = (i < m) := propext ⟨fun h => by omega, fun h => by omega⟩
                  have a2 : (c < m + 1) = (c < m) := propext ⟨fun h => by omega, fun h => by omega⟩
                  simp only [a1, a2]
                  rw [hy]; grind
          rw [e n (Nat.le_refl _), if_pos hi, if_pos (by omega)]
          have hy : y i = - M1 i c := by show (if i = c then (1 : Rat) else if i < c then _ else 0) = _; rw [if_neg (by omega), if_pos hic]
          rw [hy]; grind
        · refine sumF_eq_zero fun k hk => ?_
          by_cases e1 : k < c
          · rw [hu i k hi e1, if_neg (by omega), Rat.zero_mul]
          · by_cases e2 : k = c
            · subst e2; rw [hz i (by omega) hi, Rat.zero_mul]
            · have hy : y k = 0 := by show (if k = c then (1 : Rat) else if k < c then _ else 0) = 0; rw [if_neg e2, if_neg e1]
              rw [hy, Rat.mul_zero]
      · cases h
theorem gs_some (h : ∀ y, Hom n M y → ∀ k, k < n → y k = 0) : ∃ M', gs n M n = some M' := by
  cases hg : gs n M n with
  | some M' => exact ⟨M', rfl⟩
  | none =>
    obtain ⟨y, h1, k, hk, h2⟩ := gs_none (Nat.le_refl _) hg
    exact absurd (h y h1 k hk) h2
end
end Go.Proofs.YtabmgfchkcmcmaaDoor
