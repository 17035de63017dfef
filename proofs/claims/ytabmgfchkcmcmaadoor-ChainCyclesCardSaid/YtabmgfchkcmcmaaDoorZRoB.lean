/- augurref.RowOf, by the abstract machine. Conditions: none. -/
import Derived.Test.YtabmgfchkcmcmaaDoorZRoA
set_option linter.unusedVariables false
set_option linter.unusedSimpArgs false
namespace Go.Proofs.YtabmgfchkcmcmaaDoor
open Go Go.RowKit
def rowX (w : List Int) (k i : Nat) : Nat := if w = [] then 1 else pickN (w.getD ((k + i) % w.length) 0) 7
def rowL (w : List Int) (k n : Nat) : List Nat := (List.range n).map (rowX w k)
theorem rowX_lt (w : List Int) (k i : Nat) : rowX w k i < 7 := by
  unfold rowX pickN
  split
  · omega
  · exact Nat.mod_lt _ (by omega)
theorem rowL_succ (w : List Int) (k n : Nat) : rowL w k (n + 1) = rowL w k n ++ [rowX w k n] := by simp [rowL, List.range_succ]
theorem rowL_len (w : List Int) (k n : Nat) : (rowL w k n).length = n := by simp [rowL]
theorem rowL_sum (w : List Int) (k n : Nat) : (rowL w k n).sum ≤ n * 6 := by
  induction n with
  | zero => simp [rowL]
  | succ n ih => rw [rowL_succ, List.sum_append]; have := rowX_lt w k n; simp; omega
def rowS (w : List Int) (k n : Nat) : Nat := if (rowL w k n).sum = 0 then 1 else (rowL w k n).sum
def rowM (w : List Int) (k n : Nat) : List Nat := if (rowL w k n).sum = 0 then (rowL w k n).set 0 1 else rowL w k n
def rowOf (w : List Int) (k n : Nat) : List Rat := (rowM w k n).map fun x : Nat => ((x : Int) : Rat) / ((rowS w k n : Int) : Rat)
abbrev nI (n : Nat) : FV := I (n : Int)
theorem i64_get {w : List Int} (hw : ∀ x ∈ w, -9223372036854775808 ≤ x ∧ x ≤ 9223372036854775807) {i : Nat} (h : i < w.length) : -9223372036854775808 ≤ w[i] ∧ w[i] ≤ 9223372036854775807 := hw _ (List.getElem_mem h)
theorem rowM_len (w : List Int) (k n : Nat) : (rowM w k n).length = n := by unfold rowM; split <;> simp [rowL_len]
theorem rowM_lt (w : List Int) (k n : Nat) : ∀ x ∈ rowM w k n, x < 7 := by
  have h : ∀ x ∈ rowL w k n, x < 7 := fun x hx => by
    obtain ⟨i, _, rfl⟩ := List.mem_map.1 hx
    exact rowX_lt w k i
  intro x hx
  unfold rowM at hx
  split at hx
  · rcases List.mem_or_eq_of_mem_set hx with hx | rfl
    · exact h x hx
    · omega
  · exact h x hx
set_option maxRecDepth 100000 in
set_option maxHeartbeats 2000000 in
theorem rowOf_good (w : List Int) (k n : Nat) (hw : ∀ x ∈ w, -9223372036854775808 ≤ x ∧ x ≤ 9223372036854775807) (hk : k ≤ 1000000000) (h1 : 1 ≤ n) (hn : n ≤ 1000) (hwl : w.length ≤ 140737488355328) : Good Tryd.prog 36 [ints w, I k, I n] (frs (rowOf w k n)) := by
  have hsn := rowL_sum w k n
  refine good_of Tryd.func36 rfl (by kernel_rfl) fun X hO => ?_; rw [Tryd.ntmps36, Tryd.results36]; simp only [ast0, List.map_cons, List.map_nil, List.length_cons, List.length_nil, Nat.reduceAdd, Nat.reduceSub, List.replicate_succ, List.replicate_zero, List.cons_append, List.nil_append]
  repeat (first | (with_reducible first | refine W_seq fun K hK => ?_ | refine J_block ?_ | refine J_skip ?_ | refine J_exit ?_ | refine J_ret ?_ | refine J_region ?_  | refine J_drawn mixed (by kernel_rfl) ?_ | refine aApp_sl ?_ | refine aApp_old ?_ | refine J_c ?_ | refine Jc_true ?_ | refine Jc_false ?_ | exact Frz.f _ | (refine Kont.go (by assumption) ?_) | (simp (config := { maxSteps := 3000000 }) (disch := omega) only [go_sem, Nat.reduceEqDiff, ↓reduceIte, Nat.reduceAdd, Nat.reduceLT, Nat.reduceLeDiff, Int.reduceLT, Int.reduceLE, Int.reduceEq, Int.reduceNe, Int.reduceAdd, Int.reduceSub, Int.reduceMul, Int.reduceNeg, Int.reduceToNat])) | refine call_f (pickI _ _ (by omega) (by omega) (by omega) (by omega)) rfl ?_ | refine callQ_f (pickI _ _ (by omega) (by omega) (by omega) (by omega)) rfl ?_ | refine call_f (rof_frac (by omega) (by omega)) rfl ?_ | refine callQ_f (rof_frac (by omega) (by omega)) rfl ?_ | refine call_f (rdiv_w (by assumption) (by assumption) (by omega) (by omega) (by assumption)) rfl ?_ | refine callQ_f (rdiv_w (by assumption) (by assumption) (by omega) (by omega) (by assumption)) rfl ?_ | refine And.intro (by omega) ?_ | refine And.intro (And.intro (by omega) (by omega)) ?_)
  refine J_reserve ?_
  refine W_loop [7, 8, 9, 10, 15, 16, 17, 18, 19, 20, 21, 22, 23, 24, 25, 26, 27, 28, 29, 30, 31, 32, 33, 34, 35, 36, 37, 38, 39] (fun x : Nat => [(9, .f (I x)), (8, .f (I ((rowL w k x).sum : Nat))), (7, sl 0 1 ((rowL w k x).map nI))]) (fun x : Nat => [ob 3 1 ((rowL w k x).map nI)]) (fun x : Nat => x ≤ n) (fun x : Nat => n - x) (0) (Nat.zero_le _) (by refine weak_of ?_ ?_ <;> simp (disch := omega) only [go_sem, Nat.reduceAdd, Nat.reduceLT, Nat.reduceEqDiff] <;> first | rfl | exact ⟨rfl, rfl⟩ | exact Or.inl rfl | exact ⟨Or.inl rfl, Or.inl rfl⟩ | trivial | assumption | omega | (symm; assumption) | ((repeat' apply And.intro) <;> first | rfl | omega | trivial | assumption)) ?_
  rintro i hi
  simp only [go_sem, Nat.reduceAdd, Nat.reduceLT, Nat.reduceEqDiff]
  repeat (first | (with_reducible first | refine W_seq fun K hK => ?_ | refine J_block ?_ | refine J_skip ?_ | refine J_exit ?_ | refine J_ret ?_ | refine J_region ?_  | refine J_drawn mixed (by kernel_rfl) ?_ | refine aApp_sl ?_ | refine aApp_old ?_ | refine J_c ?_ | refine Jc_true ?_ | refine Jc_false ?_ | exact Frz.f _ | (refine Kont.go (by assumption) ?_) | (simp (config := { maxSteps := 3000000 }) (disch := omega) only [go_sem, Nat.reduceEqDiff, ↓reduceIte, Nat.reduceAdd, Nat.reduceLT, Nat.reduceLeDiff, Int.reduceLT, Int.reduceLE, Int.reduceEq, Int.reduceNe, Int.reduceAdd, Int.reduceSub, Int.reduceMul, Int.reduceNeg, Int.reduceToNat])) | refine call_f (pickI _ _ (by omega) (by omega) (by omega) (by omega)) rfl ?_ | refine callQ_f (pickI _ _ (by omega) (by omega) (by omega) (by omega)) rfl ?_ | refine call_f (rof_frac (by omega) (by omega)) rfl ?_ | refine callQ_f (rof_frac (by omega) (by omega)) rfl ?_ | refine call_f (rdiv_w (by assumption) (by assumption) (by omega) (by omega) (by assumption)) rfl ?_ | refine callQ_f (rdiv_w (by assumption) (by assumption) (by omega) (by omega) (by assumption)) rfl ?_ | refine And.intro (by omega) ?_ | refine And.intro (And.intro (by omega) (by omega)) ?_)
  refine Jc_if (fun hlt => ?_) (fun hlt => ?_) <;> try simp only [decide_eq_true_eq, decide_eq_false_iff_not, Bool.not_eq_true', Bool.not_eq_false', Bool.not_true, Bool.not_false, Int.ofNat_lt, Int.ofNat_le, Int.natCast_inj, Classical.not_not] at hlt
  · have hsum := rowL_sum w k i
    have hsi := rowL_sum w k (i + 1)
    have hx7 := rowX_lt w k i
    have hs2 : (rowL w k (i + 1)).sum = (rowL w k i).sum + rowX w k i := by rw [rowL_succ, List.sum_append]; simp
    have hmap : (rowL w k i).map nI ++ [I (rowX w k i : Nat)] = (rowL w k (i + 1)).map nI := by rw [rowL_succ, List.map_append]; rfl
    by_cases hw0 : w = []
    · have hx1 : rowX w k i = 1 := by unfold rowX; rw [if_pos hw0]
      rw [hx1] at hs2 hmap
      have hwl0 : w.length = 0 := by rw [hw0]; rfl
      have hmap1 : (rowL w k i).map nI ++ [.v (.int .i64 1)] = (rowL w k (i + 1)).map nI := hmap
      repeat (first | (with_reducible first | refine W_seq fun K hK => ?_ | refine J_block ?_ | refine J_skip ?_ | refine J_exit ?_ | refine J_ret ?_ | refine J_region ?_  | refine J_drawn mixed (by kernel_rfl) ?_ | refine aApp_sl ?_ | refine aApp_old ?_ | refine J_c ?_ | refine Jc_true ?_ | refine Jc_false ?_ | exact Frz.f _ | (refine Kont.go (by assumption) ?_) | (simp (config := { maxSteps := 3000000 }) (disch := omega) only [go_sem, Nat.reduceEqDiff, ↓reduceIte, Nat.reduceAdd, Nat.reduceLT, Nat.reduceLeDiff, Int.reduceLT, Int.reduceLE, Int.reduceEq, Int.reduceNe, Int.reduceAdd, Int.reduceSub, Int.reduceMul, Int.reduceNeg, Int.reduceToNat, List.length_map, rowL_len, hwl0, hmap1])) | refine call_f (pickI _ _ (by omega) (by omega) (by omega) (by omega)) rfl ?_ | refine callQ_f (pickI _ _ (by omega) (by omega) (by omega) (by omega)) rfl ?_ | refine call_f (rof_frac (by omega) (by omega)) rfl ?_ | refine callQ_f (rof_frac (by omega) (by omega)) rfl ?_ | refine call_f (rdiv_w (by assumption) (by assumption) (by omega) (by omega) (by assumption)) rfl ?_ | refine callQ_f (rdiv_w (by assumption) (by assumption) (by omega) (by omega) (by assumption)) rfl ?_ | refine And.intro (by omega) ?_ | refine And.intro (And.intro (by omega) (by omega)) ?_)
      refine ⟨i + 1, by omega, by omega, weak_of ?_ ?_⟩ <;> (try simp (disch := omega) only [go_sem, Nat.reduceAdd, Nat.reduceLT, Nat.reduceEqDiff]) <;> (try first | done | omega | rfl | exact ⟨rfl, rfl⟩ | trivial)
    · have hwp : 0 < w.length := List.length_pos_iff.2 hw0
      have hm : (k + i) % w.length < w.length := Nat.mod_lt _ hwp
      have hx := i64_get hw hm
      have hxx : rowX w k i = pickN w[(k + i) % w.length] 7 := by unfold rowX; rw [if_neg hw0, lget_lt w 0 hm]
      have hmod : ((k : Int) + (i : Int)).tmod (w.length : Int) = (((k + i) % w.length : Nat) : Int) := tmod_nat (by omega)
      rw [hxx] at hs2 hmap hx7
      repeat (first | (with_reducible first | refine W_seq fun K hK => ?_ | refine J_block ?_ | refine J_skip ?_ | refine J_exit ?_ | refine J_ret ?_ | refine J_region ?_  | refine J_drawn mixed (by kernel_rfl) ?_ | refine aApp_sl ?_ | refine aApp_old ?_ | refine J_c ?_ | refine Jc_true ?_ | refine Jc_false ?_ | exact Frz.f _ | (refine Kont.go (by assumption) ?_) | (simp (config := { maxSteps := 3000000 }) (disch := omega) only [go_sem, Nat.reduceEqDiff, ↓reduceIte, Nat.reduceAdd, Nat.reduceLT, Nat.reduceLeDiff, Int.reduceLT, Int.reduceLE, Int.reduceEq, Int.reduceNe, Int.reduceAdd, Int.reduceSub, Int.reduceMul, Int.reduceNeg, Int.reduceToNat, List.length_map, rowL_len, hwp, hmod, map_get I w hm, hmap])) | refine call_f (pickI _ _ (by omega) (by omega) (by omega) (by omega)) rfl ?_ | refine callQ_f (pickI _ _ (by omega) (by omega) (by omega) (by omega)) rfl ?_ | refine call_f (rof_frac (by omega) (by omega)) rfl ?_ | refine callQ_f (rof_frac (by omega) (by omega)) rfl ?_ | refine call_f (rdiv_w (by assumption) (by assumption) (by omega) (by omega) (by assumption)) rfl ?_ | refine callQ_f (rdiv_w (by assumption) (by assumption) (by omega) (by omega) (by assumption)) rfl ?_ | refine And.intro (by omega) ?_ | refine And.intro (And.intro (by omega) (by omega)) ?_)
      refine ⟨i + 1, by omega, by omega, weak_of ?_ ?_⟩ <;> (try simp (disch := omega) only [go_sem, Nat.reduceAdd, Nat.reduceLT, Nat.reduceEqDiff]) <;> (try first | done | omega | rfl | exact ⟨rfl, rfl⟩ | trivial)
  · have he : i = n := by omega
    subst he
    have hlen : ((rowL w k i).map nI) ≠ [] := fun h => by have := congrArg List.length h; simp [rowL_len] at this; omega
    have hlen2 : ((rowM w k i).map nI) ≠ [] := fun h => by have := congrArg List.length h; simp [rowM_len] at this; omega
    repeat (first | (with_reducible first | refine W_seq fun K hK => ?_ | refine J_block ?_ | refine J_skip ?_ | refine J_exit ?_ | refine J_ret ?_ | refine J_region ?_  | refine J_drawn mixed (by kernel_rfl) ?_ | refine aApp_sl ?_ | refine aApp_old ?_ | refine J_c ?_ | refine Jc_true ?_ | refine Jc_false ?_ | exact Frz.f _ | (refine Kont.go (by assumption) ?_) | (simp (config := { maxSteps := 3000000 }) (disch := omega) only [go_sem, Nat.reduceEqDiff, ↓reduceIte, Nat.reduceAdd, Nat.reduceLT, Nat.reduceLeDiff, Int.reduceLT, Int.reduceLE, Int.reduceEq, Int.reduceNe, Int.reduceAdd, Int.reduceSub, Int.reduceMul, Int.reduceNeg, Int.reduceToNat])) | refine call_f (pickI _ _ (by omega) (by omega) (by omega) (by omega)) rfl ?_ | refine callQ_f (pickI _ _ (by omega) (by omega) (by omega) (by omega)) rfl ?_ | refine call_f (rof_frac (by omega) (by omega)) rfl ?_ | refine callQ_f (rof_frac (by omega) (by omega)) rfl ?_ | refine call_f (rdiv_w (by assumption) (by assumption) (by omega) (by omega) (by assumption)) rfl ?_ | refine callQ_f (rdiv_w (by assumption) (by assumption) (by omega) (by omega) (by assumption)) rfl ?_ | refine And.intro (by omega) ?_ | refine And.intro (And.intro (by omega) (by omega)) ?_)
    refine Jc_join (by assumption) [7, 8, 40, 41, 42, 43] (fun z : Unit => [(7, sl 0 1 ((rowM w k i).map nI)), (8, .f (I (rowS w k i)))]) (fun z : Unit => [ob 3 1 ((rowM w k i).map nI)]) (fun z : Unit => True) ?_ ?_
    · by_cases hz : (rowL w k i).sum = 0
      · have hM : rowM w k i = (rowL w k i).set 0 1 := by unfold rowM; rw [if_pos hz]
        have hS : rowS w k i = 1 := by unfold rowS; rw [if_pos hz]
        have h0 := mm_get nI (rowL w k i) (i := 0) (by rw [rowL_len]; omega)
        repeat (first | (with_reducible first | refine W_seq fun K hK => ?_ | refine J_block ?_ | refine J_skip ?_ | refine J_exit ?_ | refine J_ret ?_ | refine J_region ?_  | refine J_drawn mixed (by kernel_rfl) ?_ | refine aApp_sl ?_ | refine aApp_old ?_ | refine J_c ?_ | refine Jc_true ?_ | refine Jc_false ?_ | exact Frz.f _ | (refine Kont.go (by assumption) ?_) | (simp (config := { maxSteps := 3000000 }) (disch := omega) only [go_sem, Nat.reduceEqDiff, ↓reduceIte, Nat.reduceAdd, Nat.reduceLT, Nat.reduceLeDiff, Int.reduceLT, Int.reduceLE, Int.reduceEq, Int.reduceNe, Int.reduceAdd, Int.reduceSub, Int.reduceMul, Int.reduceNeg, Int.reduceToNat, hz, List.length_map, rowL_len, h0])) | refine call_f (pickI _ _ (by omega) (by omega) (by omega) (by omega)) rfl ?_ | refine callQ_f (pickI _ _ (by omega) (by omega) (by omega) (by omega)) rfl ?_ | refine call_f (rof_frac (by omega) (by omega)) rfl ?_ | refine callQ_f (rof_frac (by omega) (by omega)) rfl ?_ | refine call_f (rdiv_w (by assumption) (by assumption) (by omega) (by omega) (by assumption)) rfl ?_ | refine callQ_f (rdiv_w (by assumption) (by assumption) (by omega) (by omega) (by assumption)) rfl ?_ | refine And.intro (by omega) ?_ | refine And.intro (And.intro (by omega) (by omega)) ?_)
        refine weak_of ?_ ?_ <;> simp only [go_sem, Nat.reduceAdd, Nat.reduceLT, Nat.reduceEqDiff]
        · rw [sl_pos hlen, sl_pos hlen2]; simp [rowL_len, rowM_len, hS]
        · rw [ob_pos hlen2, hM]; right; simp [List.map_set]; rfl
      · have hM : rowM w k i = rowL w k i := by unfold rowM; rw [if_neg hz]
        have hS : rowS w k i = (rowL w k i).sum := by unfold rowS; rw [if_neg hz]
        repeat (first | (with_reducible first | refine W_seq fun K hK => ?_ | refine J_block ?_ | refine J_skip ?_ | refine J_exit ?_ | refine J_ret ?_ | refine J_region ?_  | refine J_drawn mixed (by kernel_rfl) ?_ | refine aApp_sl ?_ | refine aApp_old ?_ | refine J_c ?_ | refine Jc_true ?_ | refine Jc_false ?_ | exact Frz.f _ | (refine Kont.go (by assumption) ?_) | (simp (config := { maxSteps := 3000000 }) (disch := omega) only [go_sem, Nat.reduceEqDiff, ↓reduceIte, Nat.reduceAdd, Nat.reduceLT, Nat.reduceLeDiff, Int.reduceLT, Int.reduceLE, Int.reduceEq, Int.reduceNe, Int.reduceAdd, Int.reduceSub, Int.reduceMul, Int.reduceNeg, Int.reduceToNat, hz])) | refine call_f (pickI _ _ (by omega) (by omega) (by omega) (by omega)) rfl ?_ | refine callQ_f (pickI _ _ (by omega) (by omega) (by omega) (by omega)) rfl ?_ | refine call_f (rof_frac (by omega) (by omega)) rfl ?_ | refine callQ_f (rof_frac (by omega) (by omega)) rfl ?_ | refine call_f (rdiv_w (by assumption) (by assumption) (by omega) (by omega) (by assumption)) rfl ?_ | refine callQ_f (rdiv_w (by assumption) (by assumption) (by omega) (by omega) (by assumption)) rfl ?_ | refine And.intro (by omega) ?_ | refine And.intro (And.intro (by omega) (by omega)) ?_)
        rw [hM, hS]
        refine weak_of ?_ ?_ <;> simp only [go_sem, Nat.reduceAdd, Nat.reduceLT, Nat.reduceEqDiff]
    · rintro _ _
      simp only [go_sem, Nat.reduceAdd, Nat.reduceLT, Nat.reduceEqDiff]
      have hS1 : 1 ≤ rowS w k i := by unfold rowS; split <;> omega
      have hS2 : rowS w k i ≤ 6000 := by unfold rowS; split <;> omega
      have hRl : (rowOf w k i).length = i := by simp [rowOf, rowM_len]
      repeat (first | (with_reducible first | refine W_seq fun K hK => ?_ | refine J_block ?_ | refine J_skip ?_ | refine J_exit ?_ | refine J_ret ?_ | refine J_region ?_  | refine J_drawn mixed (by kernel_rfl) ?_ | refine aApp_sl ?_ | refine aApp_old ?_ | refine J_c ?_ | refine Jc_true ?_ | refine Jc_false ?_ | exact Frz.f _ | (refine Kont.go (by assumption) ?_) | (simp (config := { maxSteps := 3000000 }) (disch := omega) only [go_sem, Nat.reduceEqDiff, ↓reduceIte, Nat.reduceAdd, Nat.reduceLT, Nat.reduceLeDiff, Int.reduceLT, Int.reduceLE, Int.reduceEq, Int.reduceNe, Int.reduceAdd, Int.reduceSub, Int.reduceMul, Int.reduceNeg, Int.reduceToNat])) | refine call_f (pickI _ _ (by omega) (by omega) (by omega) (by omega)) rfl ?_ | refine callQ_f (pickI _ _ (by omega) (by omega) (by omega) (by omega)) rfl ?_ | refine call_f (rof_frac (by omega) (by omega)) rfl ?_ | refine callQ_f (rof_frac (by omega) (by omega)) rfl ?_ | refine call_f (rdiv_w (by assumption) (by assumption) (by omega) (by omega) (by assumption)) rfl ?_ | refine callQ_f (rdiv_w (by assumption) (by assumption) (by omega) (by omega) (by assumption)) rfl ?_ | refine And.intro (by omega) ?_ | refine And.intro (And.intro (by omega) (by omega)) ?_)
      refine J_reserve ?_
      refine W_loop [11, 12, 13, 14, 44, 45, 46, 47, 48, 49, 50, 51, 52, 53, 54, 55, 56, 57, 58, 59, 60, 61, 62, 63] (fun x : Nat => [(12, .f (I x)), (11, sl 1 3 (((rowOf w k i).take x).map fr))]) (fun x : Nat => [ob 3 1 ((rowM w k i).map nI), ob 55 3 (((rowOf w k i).take x).map fr)]) (fun x : Nat => x ≤ i) (fun x : Nat => i - x) (0) (Nat.zero_le _) (by refine weak_of ?_ ?_ <;> simp (disch := omega) only [go_sem, Nat.reduceAdd, Nat.reduceLT, Nat.reduceEqDiff] <;> first | rfl | exact ⟨rfl, rfl⟩ | exact Or.inl rfl | exact ⟨Or.inl rfl, Or.inl rfl⟩ | trivial | assumption | omega | (symm; assumption) | ((repeat' apply And.intro) <;> first | rfl | omega | trivial | assumption)) ?_
      rintro j hj
      simp only [go_sem, Nat.reduceAdd, Nat.reduceLT, Nat.reduceEqDiff]
      repeat (first | (with_reducible first | refine W_seq fun K hK => ?_ | refine J_block ?_ | refine J_skip ?_ | refine J_exit ?_ | refine J_ret ?_ | refine J_region ?_  | refine J_drawn mixed (by kernel_rfl) ?_ | refine aApp_sl ?_ | refine aApp_old ?_ | refine J_c ?_ | refine Jc_true ?_ | refine Jc_false ?_ | exact Frz.f _ | (refine Kont.go (by assumption) ?_) | (simp (config := { maxSteps := 3000000 }) (disch := omega) only [go_sem, Nat.reduceEqDiff, ↓reduceIte, Nat.reduceAdd, Nat.reduceLT, Nat.reduceLeDiff, Int.reduceLT, Int.reduceLE, Int.reduceEq, Int.reduceNe, Int.reduceAdd, Int.reduceSub, Int.reduceMul, Int.reduceNeg, Int.reduceToNat])) | refine call_f (pickI _ _ (by omega) (by omega) (by omega) (by omega)) rfl ?_ | refine callQ_f (pickI _ _ (by omega) (by omega) (by omega) (by omega)) rfl ?_ | refine call_f (rof_frac (by omega) (by omega)) rfl ?_ | refine callQ_f (rof_frac (by omega) (by omega)) rfl ?_ | refine call_f (rdiv_w (by assumption) (by assumption) (by omega) (by omega) (by assumption)) rfl ?_ | refine callQ_f (rdiv_w (by assumption) (by assumption) (by omega) (by omega) (by assumption)) rfl ?_ | refine And.intro (by omega) ?_ | refine And.intro (And.intro (by omega) (by omega)) ?_)
      refine Jc_if (fun hlt2 => ?_) (fun hlt2 => ?_) <;> try simp only [decide_eq_true_eq, decide_eq_false_iff_not, Bool.not_eq_true', Bool.not_eq_false', Bool.not_true, Bool.not_false, Int.ofNat_lt, Int.ofNat_le, Int.natCast_inj, Classical.not_not] at hlt2
      · have hjm : j < (rowM w k i).length := by rw [rowM_len]; exact hlt2
        have hx7 := rowM_lt w k i _ (List.getElem_mem hjm)
        have hjr : j < (rowOf w k i).length := by rw [hRl]; exact hlt2
        have hrj : (rowOf w k i)[j] = (((rowM w k i)[j] : Int) : Rat) / ((rowS w k i : Int) : Rat) := by simp [rowOf]
        repeat (first | (with_reducible first | refine W_seq fun K hK => ?_ | refine J_block ?_ | refine J_skip ?_ | refine J_exit ?_ | refine J_ret ?_ | refine J_region ?_  | refine J_drawn mixed (by kernel_rfl) ?_ | refine aApp_sl ?_ | refine aApp_old ?_ | refine J_c ?_ | refine Jc_true ?_ | refine Jc_false ?_ | exact Frz.f _ | (refine Kont.go (by assumption) ?_) | (simp (config := { maxSteps := 3000000 }) (disch := omega) only [go_sem, Nat.reduceEqDiff, ↓reduceIte, Nat.reduceAdd, Nat.reduceLT, Nat.reduceLeDiff, Int.reduceLT, Int.reduceLE, Int.reduceEq, Int.reduceNe, Int.reduceAdd, Int.reduceSub, Int.reduceMul, Int.reduceNeg, Int.reduceToNat, List.length_map, rowM_len, mm_get nI (rowM w k i) hjm, hlt2])) | refine call_f (pickI _ _ (by omega) (by omega) (by omega) (by omega)) rfl ?_ | refine callQ_f (pickI _ _ (by omega) (by omega) (by omega) (by omega)) rfl ?_ | refine call_f (rof_frac (by omega) (by omega)) rfl ?_ | refine callQ_f (rof_frac (by omega) (by omega)) rfl ?_ | refine call_f (rdiv_w (by assumption) (by assumption) (by omega) (by omega) (by assumption)) rfl ?_ | refine callQ_f (rdiv_w (by assumption) (by assumption) (by omega) (by omega) (by assumption)) rfl ?_ | refine And.intro (by omega) ?_ | refine And.intro (And.intro (by omega) (by omega)) ?_)
        refine call_f (rdiv_w (IsFr.int (by omega) (by omega)) (IsFr.int (by omega) (by omega)) (by omega) (by omega) (fun h => by have := Rat.intCast_eq_zero_iff.1 h; omega)) rfl ?_
        rw [← hrj]
        repeat (first | (with_reducible first | refine W_seq fun K hK => ?_ | refine J_block ?_ | refine J_skip ?_ | refine J_exit ?_ | refine J_ret ?_ | refine J_region ?_  | refine J_drawn mixed (by kernel_rfl) ?_ | refine aApp_sl ?_ | refine aApp_old ?_ | refine J_c ?_ | refine Jc_true ?_ | refine Jc_false ?_ | exact Frz.f _ | (refine Kont.go (by assumption) ?_) | (simp (config := { maxSteps := 3000000 }) (disch := omega) only [go_sem, Nat.reduceEqDiff, ↓reduceIte, Nat.reduceAdd, Nat.reduceLT, Nat.reduceLeDiff, Int.reduceLT, Int.reduceLE, Int.reduceEq, Int.reduceNe, Int.reduceAdd, Int.reduceSub, Int.reduceMul, Int.reduceNeg, Int.reduceToNat, List.length_map, List.length_take, tk_next fr (rowOf w k i) hjr])) | refine call_f (pickI _ _ (by omega) (by omega) (by omega) (by omega)) rfl ?_ | refine callQ_f (pickI _ _ (by omega) (by omega) (by omega) (by omega)) rfl ?_ | refine call_f (rof_frac (by omega) (by omega)) rfl ?_ | refine callQ_f (rof_frac (by omega) (by omega)) rfl ?_ | refine call_f (rdiv_w (by assumption) (by assumption) (by omega) (by omega) (by assumption)) rfl ?_ | refine callQ_f (rdiv_w (by assumption) (by assumption) (by omega) (by omega) (by assumption)) rfl ?_ | refine And.intro (by omega) ?_ | refine And.intro (And.intro (by omega) (by omega)) ?_)
        refine ⟨j + 1, by omega, by omega, weak_of ?_ ?_⟩ <;> (try simp (disch := omega) only [go_sem, Nat.reduceAdd, Nat.reduceLT, Nat.reduceEqDiff]) <;> (try first | done | omega | rfl | exact ⟨rfl, rfl⟩ | trivial)
        done
      · have he : j = i := by omega
        subst he
        repeat (first | (with_reducible first | refine W_seq fun K hK => ?_ | refine J_block ?_ | refine J_skip ?_ | refine J_exit ?_ | refine J_ret ?_ | refine J_region ?_  | refine J_drawn mixed (by kernel_rfl) ?_ | refine aApp_sl ?_ | refine aApp_old ?_ | refine J_c ?_ | refine Jc_true ?_ | refine Jc_false ?_ | exact Frz.f _ | (refine Kont.go (by assumption) ?_) | (simp (config := { maxSteps := 3000000 }) (disch := omega) only [go_sem, Nat.reduceEqDiff, ↓reduceIte, Nat.reduceAdd, Nat.reduceLT, Nat.reduceLeDiff, Int.reduceLT, Int.reduceLE, Int.reduceEq, Int.reduceNe, Int.reduceAdd, Int.reduceSub, Int.reduceMul, Int.reduceNeg, Int.reduceToNat])) | refine call_f (pickI _ _ (by omega) (by omega) (by omega) (by omega)) rfl ?_ | refine callQ_f (pickI _ _ (by omega) (by omega) (by omega) (by omega)) rfl ?_ | refine call_f (rof_frac (by omega) (by omega)) rfl ?_ | refine callQ_f (rof_frac (by omega) (by omega)) rfl ?_ | refine call_f (rdiv_w (by assumption) (by assumption) (by omega) (by omega) (by assumption)) rfl ?_ | refine callQ_f (rdiv_w (by assumption) (by assumption) (by omega) (by omega) (by assumption)) rfl ?_ | refine And.intro (by omega) ?_ | refine And.intro (And.intro (by omega) (by omega)) ?_)
        rw [tk_all fr _ (by omega)]
        exact Frz.sl rfl
theorem rowI {w : List Int} {k n : Int} {k' n' : Nat} (hk' : k = k') (hn' : n = n') (hw : ∀ x ∈ w, -9223372036854775808 ≤ x ∧ x ≤ 9223372036854775807) (hk : k' ≤ 1000000000) (h1 : 1 ≤ n') (hn : n' ≤ 1000) (hwl : w.length ≤ 140737488355328) : Good Tryd.prog 36 [ints w, I k, I n] (frs (rowOf w k' n')) := by
  subst hk'; subst hn'; exact rowOf_good w k' n' hw hk h1 hn hwl
theorem rowOf_len (w : List Int) (k n : Nat) : (rowOf w k n).length = n := by simp [rowOf, rowM_len]
theorem rowS_pos (w : List Int) (k n : Nat) : 1 ≤ rowS w k n := by unfold rowS; split <;> omega
theorem rowS_le (w : List Int) (k n : Nat) (h : 1 ≤ n) : rowS w k n ≤ n * 6 := by have := rowL_sum w k n; unfold rowS; split <;> omega
theorem rowM_sum (w : List Int) (k n : Nat) (h : 1 ≤ n) : (rowM w k n).sum = rowS w k n := by
  unfold rowM rowS
  split
  · rename_i h0
    have e : ∀ l : List Nat, l ≠ [] → l.sum = 0 → (l.set 0 1).sum = 1 := fun l hl hall => by
      cases l with
      | nil => exact absurd rfl hl
      | cons a l => simp at hall ⊢; exact hall.2
    exact e _ (fun hh => by have := congrArg List.length hh; rw [rowL_len] at this; simp at this; omega) h0
  · rfl
end Go.Proofs.YtabmgfchkcmcmaaDoor
