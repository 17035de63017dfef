/- Hidden chains, in plain Lean: the path, step by step the first that is likeliest. No program in sight. Conditions: none. -/
import Derived.Test.YtabmgfchkcmcmaaDoorHidL
set_option linter.unusedVariables false
set_option linter.unusedSimpArgs false
namespace Go.Proofs.YtabmgfchkcmcmaaDoor
open Go Go.RowKit
def HM.tr (h : HM) (l : List Nat) (t k : Nat) : Rat := if t = 0 then h.a k else h.mv (l.getD (t - 1) 0) k
def HM.on (h : HM) (l : List Nat) (so : Rat) (t k : Nat) : Rat := so * h.tr l t k * h.sh k (h.s t)
def HM.pick (h : HM) (l : List Nat) (so : Rat) (t : Nat) : Option Nat := (List.range h.n).find? fun k => decide (h.on l so t k * h.mx t k = h.best)
def HM.pth (h : HM) : Nat → List Nat × Rat
  | 0 => ([], 1)
  | t + 1 => match h.pick (HM.pth h t).1 (HM.pth h t).2 t with
    | some k => ((HM.pth h t).1 ++ [k], h.on (HM.pth h t).1 (HM.pth h t).2 t k)
    | none => HM.pth h t
section
variable {h : HM} {t : Nat}
theorem pick_first {l : List Nat} {so : Rat} {i : Nat} (hi : i < h.n) (he : h.on l so t i * h.mx t i = h.best) (hp : ∀ j, j < i → h.on l so t j * h.mx t j ≠ h.best) : h.pick l so t = some i := by
  unfold HM.pick
  rw [List.find?_range_eq_some]
  exact ⟨by simpa using he, by simpa using hi, fun j hj => by simpa using hp j hj⟩
theorem HM.pth_at (hb : h.best ≠ 0) : ∀ {t : Nat}, t < h.T → (h.pth t).1.length = t ∧ (∀ x ∈ (h.pth t).1, x < h.n) ∧ (∃ k, k < h.n ∧ h.on (h.pth t).1 (h.pth t).2 t k * h.mx t k = h.best) := by
  intro t
  induction t with
  | zero =>
    intro ht
    refine ⟨rfl, fun x hx => (by cases hx), ?_⟩
    obtain ⟨k, hk, e⟩ := HM.att0 ht hb
    exact ⟨k, hk, e⟩
  | succ t ih =>
    intro ht
    obtain ⟨h1, h2, k, hk, hp⟩ := ih (by omega)
    have hsome : (h.pick (h.pth t).1 (h.pth t).2 t).isSome = true := by
      unfold HM.pick
      rw [List.find?_isSome]
      exact ⟨k, by simpa using hk, by simpa using hp⟩
    obtain ⟨q, hq⟩ := Option.isSome_iff_exists.1 hsome
    have hq' := hq
    unfold HM.pick at hq'
    have hqp := List.find?_some hq'
    have hqn := List.mem_range.1 (List.mem_of_find?_eq_some hq')
    have e : h.pth (t + 1) = ((h.pth t).1 ++ [q], h.on (h.pth t).1 (h.pth t).2 t q) := by
      show (match h.pick (h.pth t).1 (h.pth t).2 t with | some k => _ | none => _) = _
      rw [hq]
    rw [e]
    refine ⟨by simp [h1], fun x hx => ?_, ?_⟩
    · rcases List.mem_append.1 hx with hx | hx
      · exact h2 x hx
      · simp at hx; subst hx; exact hqn
    · obtain ⟨k', hk', e'⟩ := HM.att1 (i := q) (so := h.on (h.pth t).1 (h.pth t).2 t q) ht hb (by simpa using hqp)
      refine ⟨k', hk', ?_⟩
      have et : h.tr ((h.pth t).1 ++ [q]) (t + 1) k' = h.mv q k' := by
        unfold HM.tr
        rw [if_neg (by omega)]
        congr 1
        show List.getD _ (t + 1 - 1) 0 = q
        rw [show t + 1 - 1 = t by omega]
        simp [List.getD, h1]
      unfold HM.on at e' ⊢
      rw [et]
      exact e'
theorem HM.pth_next (hb : h.best ≠ 0) (ht : t < h.T) : ∃ k, k < h.n ∧ h.pick (h.pth t).1 (h.pth t).2 t = some k ∧ h.on (h.pth t).1 (h.pth t).2 t k * h.mx t k = h.best ∧ h.pth (t + 1) = ((h.pth t).1 ++ [k], h.on (h.pth t).1 (h.pth t).2 t k) := by
  obtain ⟨h1, h2, k, hk, hp⟩ := HM.pth_at hb ht
  have hsome : (h.pick (h.pth t).1 (h.pth t).2 t).isSome = true := by
    unfold HM.pick
    rw [List.find?_isSome]
    exact ⟨k, by simpa using hk, by simpa using hp⟩
  obtain ⟨q, hq⟩ := Option.isSome_iff_exists.1 hsome
  have hq' := hq
  unfold HM.pick at hq'
  have hqp := List.find?_some hq'
  have hqn := List.mem_range.1 (List.mem_of_find?_eq_some hq')
  refine ⟨q, hqn, hq, by simpa using hqp, ?_⟩
  show (match h.pick (h.pth t).1 (h.pth t).2 t with | some k => _ | none => _) = _
  rw [hq]
theorem HM.pth_len (hb : h.best ≠ 0) : ∀ {t : Nat}, t ≤ h.T → (h.pth t).1.length = t ∧ ∀ x ∈ (h.pth t).1, x < h.n := by
  intro t
  cases t with
  | zero => intro _; exact ⟨rfl, fun x hx => by cases hx⟩
  | succ t =>
    intro ht
    obtain ⟨h1, h2, _⟩ := HM.pth_at hb (t := t) (by omega)
    obtain ⟨k, hk, _, _, e⟩ := HM.pth_next hb (t := t) (by omega)
    rw [e]
    refine ⟨by simp [h1], fun x hx => ?_⟩
    rcases List.mem_append.1 hx with hx | hx
    · exact h2 x hx
    · simp at hx; subst hx; exact hk
/-- As far as it goes, it is the way's own likelihood. -/
theorem HM.pth_way (hb : h.best ≠ 0) {p : Nat → Nat} : ∀ {t : Nat}, t ≤ h.T → (∀ j, j < t → (h.pth t).1.getD j 0 = p j) → (h.pth t).2 = h.wv p t := by
  intro t
  induction t with
  | zero => intro _ _; rfl
  | succ t ih =>
    intro ht hp
    obtain ⟨h1, h2, _⟩ := HM.pth_at hb (t := t) (by omega)
    obtain ⟨k, hk, _, _, e⟩ := HM.pth_next hb (t := t) (by omega)
    rw [e] at hp ⊢
    have hk' : k = p t := by
      have := hp t (by omega)
      simpa [List.getD, h1] using this
    have hpre : ∀ j, j < t → (h.pth t).1.getD j 0 = p j := fun j hj => by
      have := hp j (by omega)
      rw [← this]
      simp [List.getD, List.getElem?_append_left (show j < (h.pth t).1.length by omega)]
    show h.on (h.pth t).1 (h.pth t).2 t k = h.wv p t * (if t = 0 then h.a (p 0) else h.mv (p (t - 1)) (p t)) * h.sh (p t) (h.s t)
    unfold HM.on HM.tr
    rw [ih (by omega) hpre, hk']
    by_cases t0 : t = 0
    · subst t0; rfl
    · rw [if_neg t0, if_neg t0, hpre (t - 1) (by omega)]
/-- The path is as likely as the best. -/
theorem HM.pth_best (hb : h.best ≠ 0) : h.wv (fun j => (h.pth h.T).1.getD j 0) h.T = h.best := by
  rw [← HM.pth_way hb (Nat.le_refl _) fun j _ => rfl]
  by_cases h0 : h.T = 0
  · rw [h0]; unfold HM.best; rw [if_pos h0]; rfl
  · obtain ⟨T, hT⟩ : ∃ T, h.T = T + 1 := ⟨h.T - 1, by omega⟩
    obtain ⟨k, hk, _, e1, e⟩ := HM.pth_next hb (t := T) (by omega)
    rw [hT, e]
    rw [HM.mx_last (by omega), Rat.mul_one] at e1
    exact e1
end
end Go.Proofs.YtabmgfchkcmcmaaDoor
