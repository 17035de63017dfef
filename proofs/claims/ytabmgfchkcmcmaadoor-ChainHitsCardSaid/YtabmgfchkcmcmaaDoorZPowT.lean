/- Powers: their sizes, that they pass the check. Plain Lean. -/
import Derived.Test.YtabmgfchkcmcmaaDoorZPowS
set_option linter.unusedVariables false
set_option linter.unusedSimpArgs false
namespace Go.Proofs.YtabmgfchkcmcmaaDoor
open Go Go.RowKit
def szQ (s : Nat) : Nat → Nat
  | 0 => 8
  | k + 1 => 8 + 6 * (szQ s k + s + 1)
theorem gs_fz {n s : Nat} {M : Mx} (h : ∀ i k, i < n → k ≤ n → Fz (M i k) s) : ∀ {c : Nat} {M' : Mx}, c ≤ n → gs n M c = some M' → ∀ i k, i < n → k ≤ n → Fz (M' i k) (szG s c) := by
  intro c
  induction c with
  | zero =>
    intro M' _ hg
    cases hg
    exact h
  | succ c ih =>
    intro M' hc hg i k hi hk
    replace hg : (match gs n M c with | none => none | some M' => match piv M' c n with | none => none | some p => some (stepM M' c (c + p))) = some M' := hg
    cases h1 : gs n M c with
    | none => rw [h1] at hg; cases hg
    | some M1 =>
      rw [h1] at hg
      replace hg : (match piv M1 c n with | none => none | some p => some (stepM M1 c (c + p))) = some M' := hg
      cases h2 : piv M1 c n with
      | none => rw [h2] at hg; cases hg
      | some p =>
        rw [h2] at hg
        cases hg
        have hp := (piv_some h2).1
        have f1 := ih (by omega) h1
        have fs : ∀ i k, i < n → k ≤ n → Fz (swapM M1 c (c + p) i k) (szG s c) := fun i k hi hk => by
          unfold swapM
          split
          · exact f1 _ _ hp hk
          · split
            · exact f1 _ _ (by omega) hk
            · exact f1 _ _ hi hk
        have fd : ∀ k, k ≤ n → Fz (divM (swapM M1 c (c + p)) c c k) (szG s c + szG s c) := fun k hk => by
          unfold divM
          rw [if_pos rfl]
          exact (fs c k (by omega) hk).div (fs c c (by omega) (by omega))
        show Fz (elimM (divM (swapM M1 c (c + p)) c) c i k) (4 * szG s c + 2)
        unfold elimM
        split
        · exact (fd k hk).up (by omega)
        · rename_i hne
          have e : ∀ k, divM (swapM M1 c (c + p)) c i k = swapM M1 c (c + p) i k := fun k => by unfold divM; rw [if_neg hne]
          rw [e, e]
          exact ((fs i k hi hk).sub ((fs i c hi (by omega)).mul (fd k hk))).up (by omega)
theorem solR_fz {A : List (List Rat)} {b : List Rat} {s : Nat} (hs : 1 ≤ s) (hsq : ∀ r ∈ A, r.length = A.length) (hb : b.length = A.length) (hA : ∀ r ∈ A, Row s r) (hbs : Row s b) : Row (szG s A.length) (solR A b) := by
  unfold solR
  cases hg : gs A.length (augM A b) A.length with
  | none => exact fun z hz => by cases hz
  | some M' =>
    intro z hz
    obtain ⟨r, hr, rfl⟩ := List.mem_map.1 hz
    refine gs_fz (n := A.length) (s := s) (fun i k hi hk => ?_) (Nat.le_refl _) hg r A.length (List.mem_range.1 hr) (Nat.le_refl _)
    unfold augM
    split
    · exact hbs.getD (by omega)
    · have hr2 := List.getElem_mem hi
      unfold at2
      rw [lget_lt A [] hi]
      exact (hA _ hr2).getD (by rw [hsq _ hr2]; omega)
end Go.Proofs.YtabmgfchkcmcmaaDoor
