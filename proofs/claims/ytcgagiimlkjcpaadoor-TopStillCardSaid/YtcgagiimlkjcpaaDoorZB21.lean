/- Powers: their sizes, that they pass the check. Plain Lean. -/
import Derived.Test.YtcgagiimlkjcpaaDoorZB20
import Derived.Test.YtcgagiimlkjcpaaDoorZB18
set_option linter.unusedVariables false
set_option linter.unusedSimpArgs false
namespace Go.Proofs.YtcgagiimlkjcpaaDoor
open Go Go.RowKit
theorem gs_fz {n s : Nat} {M : Mx} (h : ∀ i k, i < n → k ≤ n → Fz (M i k) s) : ∀ {c : Nat} {M' : Mx}, c ≤ n → gs n M c = some M' → ∀ i k, i < n → k ≤ n → Fz (M' i k) (szG s c) := by
  intro c
  induction c with
  | zero =>
    intro M' _ hg
    cases hg
    exact h
  | succ c ih =>
    intro M' hc hg i k hi hk
    replace hg : (match gs n M c with | none => none | some M' => match piv M' c n with | none => none | some p => some (stepM M' c (c + p))) = some M' := hg
    cases h1 : gs n M c with
    | none => rw [h1] at hg; cases hg
    | some M1 =>
      rw [h1] at hg
      replace hg : (match piv M1 c n with | none => none | some p => some (stepM M1 c (c + p))) = some M' := hg
      cases h2 : piv M1 c n with
      | none => rw [h2] at hg; cases hg
      | some p =>
        rw [h2] at hg
        cases hg
        have hp := (piv_some h2).1
        have f1 := ih (by omega) h1
        have fs : ∀ i k, i < n → k ≤ n → Fz (swapM M1 c (c + p) i k) (szG s c) := fun i k hi hk => by
          unfold swapM
          split
          · exact f1 _ _ hp hk
          · split
            · exact f1 _ _ (by omega) hk
            · exact f1 _ _ hi hk
        have fd : ∀ k, k ≤ n → Fz (divM (swapM M1 c (c + p)) c c k) (szG s c + szG s c) := fun k hk => by
          unfold divM
          rw [if_pos rfl]
          exact (fs c k (by omega) hk).div (fs c c (by omega) (by omega))
        show Fz (elimM (divM (swapM M1 c (c + p)) c) c i k) (4 * szG s c + 2)
        unfold elimM
        split
        · exact (fd k hk).up (by omega)
        · rename_i hne
          have e : ∀ k, divM (swapM M1 c (c + p)) c i k = swapM M1 c (c + p) i k := fun k => by unfold divM; rw [if_neg hne]
          rw [e, e]
          exact ((fs i k hi hk).sub ((fs i c hi (by omega)).mul (fd k hk))).up (by omega)
theorem solR_fz {A : List (List Rat)} {b : List Rat} {s : Nat} (hs : 1 ≤ s) (hsq : ∀ r ∈ A, r.length = A.length) (hb : b.length = A.length) (hA : ∀ r ∈ A, Row s r) (hbs : Row s b) : Row (szG s A.length) (solR A b) := by
  unfold solR
  cases hg : gs A.length (augM A b) A.length with
  | none => exact fun z hz => by cases hz
  | some M' =>
    intro z hz
    obtain ⟨r, hr, rfl⟩ := List.mem_map.1 hz
    refine gs_fz (n := A.length) (s := s) (fun i k hi hk => ?_) (Nat.le_refl _) hg r A.length (List.mem_range.1 hr) (Nat.le_refl _)
    unfold augM
    split
    · exact hbs.getD (by omega)
    · have hr2 := List.getElem_mem hi
      unfold at2
      rw [lget_lt A [] hi]
      exact (hA _ hr2).getD (by rw [hsq _ hr2]; omega)
theorem wSol_fz {b : Nat} {ys : List FV} {m : List (List Rat)} {l : List Nat} (hm : SqM b ys m) (h1 : 1 ≤ b) (hlm : ∀ s ∈ l, s < m.length) : Row (szG (b + 9) l.length) (wSol m l) := by
  have hgl : ∀ q, q < l.length → l.getD q 0 < m.length := fun q hq => by rw [lget_lt l 0 hq]; exact hlm _ (List.getElem_mem _)
  have hone : Fz (1 : Rat) (b + 9) := (Fz.int (n := 1) (by decide)).up (by omega)
  have hzero : Fz (0 : Rat) (b + 9) := (Fz.int (n := 0) (by decide)).up (by omega)
  have hW : ∀ a k, a < l.length → k < l.length → Fz (wM m l a k) (b + 9) := fun a k ha hk => by
    unfold wM
    split
    · exact hone
    · refine ((hm.f2 h1 (hgl k (by omega)) (hgl a (by omega))).sub (k := 8) ?_)
      split
      · exact Fz.int (n := 1) (by decide)
      · exact Fz.int (n := 0) (by decide)
  have hAl : ((List.range l.length).map (wR m l)).length = l.length := by simp
  have := solR_fz (A := (List.range l.length).map (wR m l)) (b := (List.range l.length).map wB) (s := b + 9) (by omega) (fun r hr => by
    obtain ⟨a, _, rfl⟩ := List.mem_map.1 hr
    simp [wR]) (by simp) (fun r hr => by
    obtain ⟨a, ha, rfl⟩ := List.mem_map.1 hr
    intro z hz
    obtain ⟨k, hk, rfl⟩ := List.mem_map.1 hz
    exact hW a k (List.mem_range.1 ha) (List.mem_range.1 hk)) (fun z hz => by
    obtain ⟨a, _, rfl⟩ := List.mem_map.1 hz
    unfold wB
    split
    · exact hone
    · exact hzero)
  rwa [hAl] at this
theorem stF_fz {l : List Nat} {sol : List Rat} {s : Nat} (hs : Row s sol) (h8 : 8 ≤ s) {k : Nat} : ∀ {x : Nat}, x ≤ sol.length → Fz (stF l sol x k) s := by
  intro x
  induction x with
  | zero => intro _; exact (Fz.int (n := 0) (by decide)).up h8
  | succ x ih =>
    intro hx
    show Fz (if k = l.getD x 0 then sol.getD x 0 else stF l sol x k) s
    split
    · exact hs.getD (by omega)
    · exact ih (by omega)
theorem szG_ge {s : Nat} : ∀ c, s ≤ szG s c := by
  intro c
  induction c with
  | zero => exact Nat.le_refl _
  | succ c ih => show s ≤ 4 * szG s c + 2; omega
end Go.Proofs.YtcgagiimlkjcpaaDoor
set_option linter.unusedVariables false
set_option linter.unusedSimpArgs false
namespace Go.Proofs.YtcgagiimlkjcpaaDoor
open Go Go.RowKit
theorem firstI_any {p : Nat → Bool} {n : Nat} : decide (0 ≤ firstI p n) = (List.range n).any p := by
  unfold firstI
  cases h : (List.range n).find? p with
  | none =>
    have : (List.range n).any p = false := by
      rw [List.any_eq_false]
      intro x hx
      exact List.find?_eq_none.1 h x hx
    rw [this]; decide
  | some i =>
    have : (List.range n).any p = true := List.any_eq_true.2 ⟨i, List.mem_of_find?_eq_some h, List.find?_some h⟩
    rw [this]
    exact decide_eq_true (Int.natCast_nonneg _)
set_option maxRecDepth 100000 in
theorem indexI_w {l : List Nat} {k : Nat} (hl : l.length ≤ 1000) (hk : k ≤ 1000) (hlm : ∀ s ∈ l, s ≤ 1000) : Good Tryd.prog 32 [.fz 1 (Ns l), I (k : Int)] (I (firstI (fun i => decide (l.getD i 0 = k)) l.length)) := by
  refine good_of Tryd.func32 rfl (by kernel_rfl) fun X hO hrd => ?_; rw [Tryd.ntmps32, Tryd.results32]; simp only [ast0, List.map_cons, List.map_nil, List.length_cons, List.length_nil, Nat.reduceAdd, Nat.reduceSub, List.replicate_succ, List.replicate_zero, List.cons_append, List.nil_append]
  repeat (first | (with_reducible first | refine W_seq fun K hK => ?_ | refine J_block ?_ | refine J_skip ?_ | refine J_exit ?_ | refine J_ret ?_ | refine J_region ?_  | refine J_drawn mixed (by kernel_rfl) ?_ | refine aApp_sl ?_ | refine aApp_old ?_ | refine J_c ?_ | refine Jc_true ?_ | refine Jc_false ?_ | exact Frz.f _ | (refine Kont.go (by assumption) ?_) | (simp (config := { maxSteps := 3000000 }) (disch := omega) only [go_sem, Nat.reduceEqDiff, ↓reduceIte, Nat.reduceAdd, Nat.reduceLT, Nat.reduceLeDiff, Int.reduceLT, Int.reduceLE, Int.reduceEq, Int.reduceNe, Int.reduceAdd, Int.reduceSub, Int.reduceMul, Int.reduceNeg, Int.reduceToNat, Ns_len])) | refine And.intro (by omega) ?_ | refine And.intro (And.intro (by omega) (by omega)) ?_)
  refine W_loop [4, 5, 8, 9, 10, 11, 12, 13, 14, 15, 16, 17, 18] (fun x : Nat => [(8, .f (I x))]) (fun x : Nat => []) (fun x : Nat => x ≤ l.length ∧ ∀ j, j < x → decide (l.getD j 0 = k) = false) (fun x : Nat => l.length - x) (0) (⟨Nat.zero_le _, fun j h => by omega⟩) (by refine weak_of ?_ ?_ <;> simp (disch := omega) only [go_sem, Nat.reduceAdd, Nat.reduceLT, Nat.reduceEqDiff] <;> first | rfl | exact ⟨rfl, rfl⟩ | exact Or.inl rfl | exact ⟨Or.inl rfl, Or.inl rfl⟩ | trivial | assumption | omega | (symm; assumption) | ((repeat' apply And.intro) <;> first | rfl | omega | trivial | exact .inr ⟨rfl, rfl⟩ | exact .inr rfl | (right; symm; assumption) | (symm; assumption) | assumption)) ?_
  rintro i ⟨hi, hp⟩
  simp only [go_sem, Nat.reduceAdd, Nat.reduceLT, Nat.reduceEqDiff]
  repeat (first | (with_reducible first | refine W_seq fun K hK => ?_ | refine J_block ?_ | refine J_skip ?_ | refine J_exit ?_ | refine J_ret ?_ | refine J_region ?_  | refine J_drawn mixed (by kernel_rfl) ?_ | refine aApp_sl ?_ | refine aApp_old ?_ | refine J_c ?_ | refine Jc_true ?_ | refine Jc_false ?_ | exact Frz.f _ | (refine Kont.go (by assumption) ?_) | (simp (config := { maxSteps := 3000000 }) (disch := omega) only [go_sem, Nat.reduceEqDiff, ↓reduceIte, Nat.reduceAdd, Nat.reduceLT, Nat.reduceLeDiff, Int.reduceLT, Int.reduceLE, Int.reduceEq, Int.reduceNe, Int.reduceAdd, Int.reduceSub, Int.reduceMul, Int.reduceNeg, Int.reduceToNat, Ns_len])) | refine And.intro (by omega) ?_ | refine And.intro (And.intro (by omega) (by omega)) ?_)
  refine Jc_if (fun hlt => ?_) (fun hlt => ?_) <;> try simp only [decide_eq_true_eq, decide_eq_false_iff_not, Bool.not_eq_true', Bool.not_eq_false', Bool.not_true, Bool.not_false, Int.ofNat_lt, Int.ofNat_le, Int.natCast_inj, Classical.not_not] at hlt
  · have hx := Ns_get hlt
    have hle : l.getD i 0 ≤ 1000 := by rw [lget_lt l 0 hlt]; exact hlm _ (List.getElem_mem _)
    by_cases hb : l.getD i 0 = k
    · have e : firstI (fun i => decide (l.getD i 0 = k)) l.length = i := firstI_some hlt (decide_eq_true hb) hp
      repeat (first | (with_reducible first | refine W_seq fun K hK => ?_ | refine J_block ?_ | refine J_skip ?_ | refine J_exit ?_ | refine J_ret ?_ | refine J_region ?_  | refine J_drawn mixed (by kernel_rfl) ?_ | refine aApp_sl ?_ | refine aApp_old ?_ | refine J_c ?_ | refine Jc_true ?_ | refine Jc_false ?_ | exact Frz.f _ | (refine Kont.go (by assumption) ?_) | (simp (config := { maxSteps := 3000000 }) (disch := omega) only [go_sem, Nat.reduceEqDiff, ↓reduceIte, Nat.reduceAdd, Nat.reduceLT, Nat.reduceLeDiff, Int.reduceLT, Int.reduceLE, Int.reduceEq, Int.reduceNe, Int.reduceAdd, Int.reduceSub, Int.reduceMul, Int.reduceNeg, Int.reduceToNat, hx, Ns_len, hb, Int.natCast_inj])) | refine And.intro (by omega) ?_ | refine And.intro (And.intro (by omega) (by omega)) ?_)
      rw [e]
      exact Frz.f _
    · have hb' : ¬ k = l.getD i 0 := fun h => hb h.symm
      repeat (first | (with_reducible first | refine W_seq fun K hK => ?_ | refine J_block ?_ | refine J_skip ?_ | refine J_exit ?_ | refine J_ret ?_ | refine J_region ?_  | refine J_drawn mixed (by kernel_rfl) ?_ | refine aApp_sl ?_ | refine aApp_old ?_ | refine J_c ?_ | refine Jc_true ?_ | refine Jc_false ?_ | exact Frz.f _ | (refine Kont.go (by assumption) ?_) | (simp (config := { maxSteps := 3000000 }) (disch := omega) only [go_sem, Nat.reduceEqDiff, ↓reduceIte, Nat.reduceAdd, Nat.reduceLT, Nat.reduceLeDiff, Int.reduceLT, Int.reduceLE, Int.reduceEq, Int.reduceNe, Int.reduceAdd, Int.reduceSub, Int.reduceMul, Int.reduceNeg, Int.reduceToNat, hx, Ns_len, hb', Int.natCast_inj])) | refine And.intro (by omega) ?_ | refine And.intro (And.intro (by omega) (by omega)) ?_)
      refine ⟨i + 1, ⟨by omega, upto_next (p := fun j => decide (l.getD j 0 = k) = false) hp (decide_eq_false hb)⟩, by omega, weak_of ?_ ?_⟩ <;> (try simp (disch := omega) only [go_sem, Nat.reduceAdd, Nat.reduceLT, Nat.reduceEqDiff]) <;> (try first | done | omega | rfl | exact ⟨rfl, rfl⟩ | trivial)
  · have he : i = l.length := by omega
    have e : firstI (fun i => decide (l.getD i 0 = k)) l.length = -1 := firstI_none (he ▸ hp)
    repeat (first | (with_reducible first | refine W_seq fun K hK => ?_ | refine J_block ?_ | refine J_skip ?_ | refine J_exit ?_ | refine J_ret ?_ | refine J_region ?_  | refine J_drawn mixed (by kernel_rfl) ?_ | refine aApp_sl ?_ | refine aApp_old ?_ | refine J_c ?_ | refine Jc_true ?_ | refine Jc_false ?_ | exact Frz.f _ | (refine Kont.go (by assumption) ?_) | (simp (config := { maxSteps := 3000000 }) (disch := omega) only [go_sem, Nat.reduceEqDiff, ↓reduceIte, Nat.reduceAdd, Nat.reduceLT, Nat.reduceLeDiff, Int.reduceLT, Int.reduceLE, Int.reduceEq, Int.reduceNe, Int.reduceAdd, Int.reduceSub, Int.reduceMul, Int.reduceNeg, Int.reduceToNat])) | refine And.intro (by omega) ?_ | refine And.intro (And.intro (by omega) (by omega)) ?_)
    rw [e]
    exact Frz.f _
set_option maxRecDepth 100000 in
theorem containsI_w {l : List Nat} {k : Nat} (hl : l.length ≤ 1000) (hk : k ≤ 1000) (hlm : ∀ s ∈ l, s ≤ 1000) : Good Tryd.prog 28 [.fz 1 (Ns l), I (k : Int)] (Bo (decide (k ∈ l))) := by
  have h := indexI_w hl hk hlm
  have e : decide (0 ≤ firstI (fun i => decide (l.getD i 0 = k)) l.length) = decide (k ∈ l) := by
    rw [firstI_any]
    by_cases hm : k ∈ l
    · obtain ⟨c, hc, ec⟩ := List.getElem_of_mem hm
      rw [decide_eq_true hm]
      exact List.any_eq_true.2 ⟨c, List.mem_range.2 hc, decide_eq_true (by rw [lget_lt l 0 hc]; exact ec)⟩
    · rw [decide_eq_false hm, List.any_eq_false]
      intro j hj hh
      have hj := List.mem_range.1 hj
      have := of_decide_eq_true hh
      exact hm (by rw [← this, lget_lt l 0 hj]; exact List.getElem_mem _)
  refine good_of Tryd.func28 rfl (by kernel_rfl) fun X hO hrd => ?_; rw [Tryd.ntmps28, Tryd.results28]; simp only [ast0, List.map_cons, List.map_nil, List.length_cons, List.length_nil, Nat.reduceAdd, Nat.reduceSub, List.replicate_succ, List.replicate_zero, List.cons_append, List.nil_append]
  repeat (first | (with_reducible first | refine W_seq fun K hK => ?_ | refine J_block ?_ | refine J_skip ?_ | refine J_exit ?_ | refine J_ret ?_ | refine J_region ?_  | refine J_drawn mixed (by kernel_rfl) ?_ | refine aApp_sl ?_ | refine aApp_old ?_ | refine J_c ?_ | refine Jc_true ?_ | refine Jc_false ?_ | exact Frz.f _ | (refine Kont.go (by assumption) ?_) | (simp (config := { maxSteps := 3000000 }) (disch := omega) only [go_sem, Nat.reduceEqDiff, ↓reduceIte, Nat.reduceAdd, Nat.reduceLT, Nat.reduceLeDiff, Int.reduceLT, Int.reduceLE, Int.reduceEq, Int.reduceNe, Int.reduceAdd, Int.reduceSub, Int.reduceMul, Int.reduceNeg, Int.reduceToNat])) | refine And.intro (by omega) ?_ | refine And.intro (And.intro (by omega) (by omega)) ?_)
  refine call_f h rfl ?_
  repeat (first | (with_reducible first | refine W_seq fun K hK => ?_ | refine J_block ?_ | refine J_skip ?_ | refine J_exit ?_ | refine J_ret ?_ | refine J_region ?_  | refine J_drawn mixed (by kernel_rfl) ?_ | refine aApp_sl ?_ | refine aApp_old ?_ | refine J_c ?_ | refine Jc_true ?_ | refine Jc_false ?_ | exact Frz.f _ | (refine Kont.go (by assumption) ?_) | (simp (config := { maxSteps := 3000000 }) (disch := omega) only [go_sem, Nat.reduceEqDiff, ↓reduceIte, Nat.reduceAdd, Nat.reduceLT, Nat.reduceLeDiff, Int.reduceLT, Int.reduceLE, Int.reduceEq, Int.reduceNe, Int.reduceAdd, Int.reduceSub, Int.reduceMul, Int.reduceNeg, Int.reduceToNat])) | refine And.intro (by omega) ?_ | refine And.intro (And.intro (by omega) (by omega)) ?_)
  rw [e]
  exact Frz.f _
end Go.Proofs.YtcgagiimlkjcpaaDoor
