/- Powers: their sizes, that they pass the check. Plain Lean. -/
import Derived.Test.YtabmgfchkcmcmaaDoorZPowS
set_option linter.unusedVariables false
set_option linter.unusedSimpArgs false
namespace Go.Proofs.YtabmgfchkcmcmaaDoor
open Go Go.RowKit
theorem chk_mxL {n : Nat} {A : Mx} (h1 : 1 ≤ n) (hn : n ≤ 6) (h : Sto n A) : chkM (mxL n A) = 0 := by
  have hlen : (mxL n A).length = n := by simp [mxL]
  unfold chkM sqM
  rw [hlen, if_neg (by omega), if_neg, if_neg]
  · refine fun hh => hh fun r hr => ?_
    obtain ⟨i, hi, rfl⟩ := List.mem_map.1 hr
    have hi := List.mem_range.1 hi
    refine decide_eq_true ⟨fun q hq => ?_, ?_⟩
    · obtain ⟨k, hk, rfl⟩ := List.mem_map.1 hq
      exact h.nonneg i k hi (List.mem_range.1 hk)
    · rw [← h.sum i hi]
      unfold sumR
      rw [sumTo_F, List.length_map, List.length_range]
      exact sumF_congr fun k hk => by simp [List.getD, hk]
  · refine fun hh => hh fun r hr => ?_
    obtain ⟨i, hi, rfl⟩ := List.mem_map.1 hr
    simp
theorem at2_mxL {n : Nat} {A : Mx} {i k : Nat} (hi : i < n) (hk : k < n) : at2 (mxL n A) i k = A i k := by
  have e1 : (mxL n A)[i]? = some ((List.range n).map (A i)) := by simp [mxL, hi]
  unfold at2
  rw [List.getD_eq_getElem?_getD (l := mxL n A), e1]
  show ((List.range n).map (A i)).getD k 0 = _
  simp [List.getD, hk]
theorem gs_fz {n s : Nat} {M : Mx} (h : ∀ i k, i < n → k ≤ n → Fz (M i k) s) : ∀ {c : Nat} {M' : Mx}, c ≤ n → gs n M c = some M' → ∀ i k, i < n → k ≤ n → Fz (M' i k) (szG s c) := by
  intro c
  induction c with
  | zero =>
    intro M' _ hg
    cases hg
    exact h
  | succ c ih =>
    intro M' hc hg i k hi hk
    replace hg : (match gs n M c with | none => none | some M' => match piv M' c n with | none => none | some p => some (stepM M' c (c + p))) = some M' := hg
    cases h1 : gs n M c with
    | none => rw [h1] at hg; cases hg
    | some M1 =>
      rw [h1] at hg
      replace hg : (match piv M1 c n with | none => none | some p => some (stepM M1 c (c + p))) = some M' := hg
      cases h2 : piv M1 c n with
      | none => rw [h2] at hg; cases hg
      | some p =>
        rw [h2] at hg
        cases hg
        have hp := (piv_some h2).1
        have f1 := ih (by omega) h1
        have fs : ∀ i k, i < n → k ≤ n → Fz (swapM M1 c (c + p) i k) (szG s c) := fun i k hi hk => by
          unfold swapM
          split
          · exact f1 _ _ hp hk
          · split
            · exact f1 _ _ (by omega) hk
            · exact f1 _ _ hi hk
        have fd : ∀ k, k ≤ n → Fz (divM (swapM M1 c (c + p)) c c k) (szG s c + szG s c) := fun k hk => by
          unfold divM
          rw [if_pos rfl]
          exact (fs c k (by omega) hk).div (fs c c (by omega) (by omega))
        show Fz (elimM (divM (swapM M1 c (c + p)) c) c i k) (4 * szG s c + 2)
        unfold elimM
        split
        · exact (fd k hk).up (by omega)
        · rename_i hne
          have e : ∀ k, divM (swapM M1 c (c + p)) c i k = swapM M1 c (c + p) i k := fun k => by unfold divM; rw [if_neg hne]
          rw [e, e]
          exact ((fs i k hi hk).sub ((fs i c hi (by omega)).mul (fd k hk))).up (by omega)
theorem solR_fz {A : List (List Rat)} {b : List Rat} {s : Nat} (hs : 1 ≤ s) (hsq : ∀ r ∈ A, r.length = A.length) (hb : b.length = A.length) (hA : ∀ r ∈ A, Row s r) (hbs : Row s b) : Row (szG s A.length) (solR A b) := by
  unfold solR
  cases hg : gs A.length (augM A b) A.length with
  | none => exact fun z hz => by cases hz
  | some M' =>
    intro z hz
    obtain ⟨r, hr, rfl⟩ := List.mem_map.1 hz
    refine gs_fz (n := A.length) (s := s) (fun i k hi hk => ?_) (Nat.le_refl _) hg r A.length (List.mem_range.1 hr) (Nat.le_refl _)
    unfold augM
    split
    · exact hbs.getD (by omega)
    · have hr2 := List.getElem_mem hi
      unfold at2
      rw [lget_lt A [] hi]
      exact (hA _ hr2).getD (by rw [hsq _ hr2]; omega)
theorem wSol_fz {b : Nat} {ys : List FV} {m : List (List Rat)} {l : List Nat} (hm : SqM b ys m) (h1 : 1 ≤ b) (hlm : ∀ s ∈ l, s < m.length) : Row (szG (b + 9) l.length) (wSol m l) := by
  have hgl : ∀ q, q < l.length → l.getD q 0 < m.length := fun q hq => by rw [lget_lt l 0 hq]; exact hlm _ (List.getElem_mem _)
  have hone : Fz (1 : Rat) (b + 9) := (Fz.int (n := 1) (by decide)).up (by omega)
  have hzero : Fz (0 : Rat) (b + 9) := (Fz.int (n := 0) (by decide)).up (by omega)
  have hW : ∀ a k, a < l.length → k < l.length → Fz (wM m l a k) (b + 9) := fun a k ha hk => by
    unfold wM
    split
    · exact hone
    · refine ((hm.f2 h1 (hgl k (by omega)) (hgl a (by omega))).sub (k := 8) ?_)
      split
      · exact Fz.int (n := 1) (by decide)
      · exact Fz.int (n := 0) (by decide)
  have hAl : ((List.range l.length).map (wR m l)).length = l.length := by simp
  have := solR_fz (A := (List.range l.length).map (wR m l)) (b := (List.range l.length).map wB) (s := b + 9) (by omega) (fun r hr => by
    obtain ⟨a, _, rfl⟩ := List.mem_map.1 hr
    simp [wR]) (by simp) (fun r hr => by
    obtain ⟨a, ha, rfl⟩ := List.mem_map.1 hr
    intro z hz
    obtain ⟨k, hk, rfl⟩ := List.mem_map.1 hz
    exact hW a k (List.mem_range.1 ha) (List.mem_range.1 hk)) (fun z hz => by
    obtain ⟨a, _, rfl⟩ := List.mem_map.1 hz
    unfold wB
    split
    · exact hone
    · exact hzero)
  rwa [hAl] at this
theorem stF_fz {l : List Nat} {sol : List Rat} {s : Nat} (hs : Row s sol) (h8 : 8 ≤ s) {k : Nat} : ∀ {x : Nat}, x ≤ sol.length → Fz (stF l sol x k) s := by
  intro x
  induction x with
  | zero => intro _; exact (Fz.int (n := 0) (by decide)).up h8
  | succ x ih =>
    intro hx
    show Fz (if k = l.getD x 0 then sol.getD x 0 else stF l sol x k) s
    split
    · exact hs.getD (by omega)
    · exact ih (by omega)
theorem szG_ge {s : Nat} : ∀ c, s ≤ szG s c := by
  intro c
  induction c with
  | zero => exact Nat.le_refl _
  | succ c ih => show s ≤ 4 * szG s c + 2; omega
end Go.Proofs.YtabmgfchkcmcmaaDoor
