/- augurref.MatrixOf: a chain of raw weights. Conditions: what slices may hold. -/
import Derived.Test.YtabmgfchkcmcmaaDoorZChk
import Derived.Test.YtabmgfchkcmcmaaDoorZFill
import Derived.Test.YtabmgfchkcmcmaaDoorZRoC
set_option linter.unusedVariables false
set_option linter.unusedSimpArgs false
namespace Go.Proofs.YtabmgfchkcmcmaaDoor
open Go Go.RowKit
def matX (w : List Int) (n i k : Nat) : Nat := if w = [] then 1 else pickN (w.getD ((i * n + k) % w.length) 0) 9 - 3
def matL (w : List Int) (n i m : Nat) : List Int := (List.range m).map fun k => ((matX w n i k : Nat) : Int)
def matR (w : List Int) (n m : Nat) : List (List Rat) := (List.range m).map fun i => rowOf (matL w n i n) 0 n
theorem matX_le (w : List Int) (n i k : Nat) : matX w n i k ≤ 5 := by
  unfold matX
  split
  · omega
  · have := pickN_lt (w.getD ((i * n + k) % w.length) 0) (n := 9) (by omega); omega
theorem matL_len (w : List Int) (n i m : Nat) : (matL w n i m).length = m := by simp [matL]
theorem matR_len (w : List Int) (n m : Nat) : (matR w n m).length = m := by simp [matR]
theorem matL_next (w : List Int) (n i m : Nat) : (matL w n i m).map I ++ [I (matX w n i m : Nat)] = (matL w n i (m + 1)).map I := by simp [matL, List.range_succ]
theorem matR_next (w : List Int) (n m : Nat) : (matR w n m).map frs ++ [frs (rowOf (matL w n m n) 0 n)] = (matR w n (m + 1)).map frs := by simp [matR, List.range_succ]
theorem matL_64 (w : List Int) (n i m : Nat) : ∀ x ∈ matL w n i m, -9223372036854775808 ≤ x ∧ x ≤ 9223372036854775807 := fun x hx => by
  obtain ⟨k, _, rfl⟩ := List.mem_map.1 hx
  have := matX_le w n i k
  omega
set_option maxRecDepth 100000 in
set_option maxHeartbeats 2000000 in
theorem matrixOf_w (w : List Int) (n : Nat) (hw : ∀ x ∈ w, -9223372036854775808 ≤ x ∧ x ≤ 9223372036854775807) (h1 : 1 ≤ n) (hn : n ≤ 1000) (hwl : w.length ≤ 140737488355328) : Good Tryd.prog 55 [ints w, I n] (rowsF (matR w n n)) := by
  refine good_of Tryd.func55 rfl (by kernel_rfl) fun X hO => ?_; rw [Tryd.ntmps55, Tryd.results55]; simp only [ast0, List.map_cons, List.map_nil, List.length_cons, List.length_nil, Nat.reduceAdd, Nat.reduceSub, List.replicate_succ, List.replicate_zero, List.cons_append, List.nil_append]
  repeat (first | (with_reducible first | refine W_seq fun K hK => ?_ | refine J_block ?_ | refine J_skip ?_ | refine J_exit ?_ | refine J_ret ?_ | refine J_region ?_  | refine J_drawn mixed (by kernel_rfl) ?_ | refine aApp_sl ?_ | refine aApp_old ?_ | refine J_c ?_ | refine Jc_true ?_ | refine Jc_false ?_ | exact Frz.f _ | (refine Kont.go (by assumption) ?_) | (simp (config := { maxSteps := 3000000 }) (disch := omega) only [go_sem, Nat.reduceEqDiff, ↓reduceIte, Nat.reduceAdd, Nat.reduceLT, Nat.reduceLeDiff, Int.reduceLT, Int.reduceLE, Int.reduceEq, Int.reduceNe, Int.reduceAdd, Int.reduceSub, Int.reduceMul, Int.reduceNeg, Int.reduceToNat])) | refine call_f (pickI _ _ (by omega) (by omega) (by omega) (by omega)) rfl ?_ | refine callQ_f (pickI _ _ (by omega) (by omega) (by omega) (by omega)) rfl ?_ | refine And.intro (by omega) ?_ | refine And.intro (And.intro (by omega) (by omega)) ?_)
  refine J_reserve ?_
  refine W_loop [5, 6, 7, 8, 9, 10, 11, 12, 13, 14, 15, 16, 17, 18, 19, 20, 21, 22, 23, 24, 25, 26, 27, 28, 29, 30, 31, 32, 33, 34, 35, 36, 37, 38, 39, 40, 41, 42, 43, 44, 45, 46, 47, 48, 49] (fun x : Nat => [(6, .f (I x)), (5, sl 0 1 ((matR w n x).map frs))]) (fun x : Nat => [ob 49 1 ((matR w n x).map frs)]) (fun x : Nat => x ≤ n) (fun x : Nat => n - x) (0) (Nat.zero_le _) (by refine weak_of ?_ ?_ <;> simp (disch := omega) only [go_sem, Nat.reduceAdd, Nat.reduceLT, Nat.reduceEqDiff] <;> first | rfl | exact ⟨rfl, rfl⟩ | exact Or.inl rfl | exact ⟨Or.inl rfl, Or.inl rfl⟩ | trivial | assumption | omega | (symm; assumption) | ((repeat' apply And.intro) <;> first | rfl | omega | trivial | assumption)) ?_
  rintro i hi
  simp only [go_sem, Nat.reduceAdd, Nat.reduceLT, Nat.reduceEqDiff]
  repeat (first | (with_reducible first | refine W_seq fun K hK => ?_ | refine J_block ?_ | refine J_skip ?_ | refine J_exit ?_ | refine J_ret ?_ | refine J_region ?_  | refine J_drawn mixed (by kernel_rfl) ?_ | refine aApp_sl ?_ | refine aApp_old ?_ | refine J_c ?_ | refine Jc_true ?_ | refine Jc_false ?_ | exact Frz.f _ | (refine Kont.go (by assumption) ?_) | (simp (config := { maxSteps := 3000000 }) (disch := omega) only [go_sem, Nat.reduceEqDiff, ↓reduceIte, Nat.reduceAdd, Nat.reduceLT, Nat.reduceLeDiff, Int.reduceLT, Int.reduceLE, Int.reduceEq, Int.reduceNe, Int.reduceAdd, Int.reduceSub, Int.reduceMul, Int.reduceNeg, Int.reduceToNat])) | refine call_f (pickI _ _ (by omega) (by omega) (by omega) (by omega)) rfl ?_ | refine callQ_f (pickI _ _ (by omega) (by omega) (by omega) (by omega)) rfl ?_ | refine And.intro (by omega) ?_ | refine And.intro (And.intro (by omega) (by omega)) ?_)
  refine Jc_if (fun hlt => ?_) (fun hlt => ?_) <;> try simp only [decide_eq_true_eq, decide_eq_false_iff_not, Bool.not_eq_true', Bool.not_eq_false', Bool.not_true, Bool.not_false, Int.ofNat_lt, Int.ofNat_le, Int.natCast_inj, Classical.not_not] at hlt
  · have hnn : i * n ≤ 1000000 := Nat.mul_le_mul (show i ≤ 1000 by omega) hn
    have hcin : ((i : Int) * (n : Int)) = ((i * n : Nat) : Int) := (Int.natCast_mul i n).symm
    repeat (first | (with_reducible first | refine W_seq fun K hK => ?_ | refine J_block ?_ | refine J_skip ?_ | refine J_exit ?_ | refine J_ret ?_ | refine J_region ?_  | refine J_drawn mixed (by kernel_rfl) ?_ | refine aApp_sl ?_ | refine aApp_old ?_ | refine J_c ?_ | refine Jc_true ?_ | refine Jc_false ?_ | exact Frz.f _ | (refine Kont.go (by assumption) ?_) | (simp (config := { maxSteps := 3000000 }) (disch := omega) only [go_sem, Nat.reduceEqDiff, ↓reduceIte, Nat.reduceAdd, Nat.reduceLT, Nat.reduceLeDiff, Int.reduceLT, Int.reduceLE, Int.reduceEq, Int.reduceNe, Int.reduceAdd, Int.reduceSub, Int.reduceMul, Int.reduceNeg, Int.reduceToNat])) | refine call_f (pickI _ _ (by omega) (by omega) (by omega) (by omega)) rfl ?_ | refine callQ_f (pickI _ _ (by omega) (by omega) (by omega) (by omega)) rfl ?_ | refine And.intro (by omega) ?_ | refine And.intro (And.intro (by omega) (by omega)) ?_)
    refine J_reserve ?_
    refine W_loop [7, 8, 9, 16, 17, 18, 19, 20, 21, 22, 23, 24, 25, 26, 27, 28, 29, 30, 31, 32, 33, 34, 35, 36, 37, 38, 39, 40, 41, 42] (fun x : Nat => [(8, .f (I x)), (7, sl 1 1 ((matL w n i x).map I))]) (fun x : Nat => [ob 49 1 ((matR w n i).map frs), ob 3 1 ((matL w n i x).map I)]) (fun x : Nat => x ≤ n) (fun x : Nat => n - x) (0) (Nat.zero_le _) (by refine weak_of ?_ ?_ <;> simp (disch := omega) only [go_sem, Nat.reduceAdd, Nat.reduceLT, Nat.reduceEqDiff] <;> first | rfl | exact ⟨rfl, rfl⟩ | exact Or.inl rfl | exact ⟨Or.inl rfl, Or.inl rfl⟩ | trivial | assumption | omega | (symm; assumption) | ((repeat' apply And.intro) <;> first | rfl | omega | trivial | assumption)) ?_
    rintro k hk
    simp only [go_sem, Nat.reduceAdd, Nat.reduceLT, Nat.reduceEqDiff]
    repeat (first | (with_reducible first | refine W_seq fun K hK => ?_ | refine J_block ?_ | refine J_skip ?_ | refine J_exit ?_ | refine J_ret ?_ | refine J_region ?_  | refine J_drawn mixed (by kernel_rfl) ?_ | refine aApp_sl ?_ | refine aApp_old ?_ | refine J_c ?_ | refine Jc_true ?_ | refine Jc_false ?_ | exact Frz.f _ | (refine Kont.go (by assumption) ?_) | (simp (config := { maxSteps := 3000000 }) (disch := omega) only [go_sem, Nat.reduceEqDiff, ↓reduceIte, Nat.reduceAdd, Nat.reduceLT, Nat.reduceLeDiff, Int.reduceLT, Int.reduceLE, Int.reduceEq, Int.reduceNe, Int.reduceAdd, Int.reduceSub, Int.reduceMul, Int.reduceNeg, Int.reduceToNat])) | refine call_f (pickI _ _ (by omega) (by omega) (by omega) (by omega)) rfl ?_ | refine callQ_f (pickI _ _ (by omega) (by omega) (by omega) (by omega)) rfl ?_ | refine And.intro (by omega) ?_ | refine And.intro (And.intro (by omega) (by omega)) ?_)
    refine Jc_if (fun hlt2 => ?_) (fun hlt2 => ?_) <;> try simp only [decide_eq_true_eq, decide_eq_false_iff_not, Bool.not_eq_true', Bool.not_eq_false', Bool.not_true, Bool.not_false, Int.ofNat_lt, Int.ofNat_le, Int.natCast_inj, Classical.not_not] at hlt2
    · have hx5 := matX_le w n i k
      have hnx := matL_next w n i k
      by_cases hw0 : w = []
      · have hx1 : matX w n i k = 1 := by unfold matX; rw [if_pos hw0]
        rw [hx1] at hnx
        have hwl0 : w.length = 0 := by rw [hw0]; rfl
        have hnx1 : (matL w n i k).map I ++ [.v (.int .i64 1)] = (matL w n i (k + 1)).map I := hnx
        repeat (first | (with_reducible first | refine W_seq fun K hK => ?_ | refine J_block ?_ | refine J_skip ?_ | refine J_exit ?_ | refine J_ret ?_ | refine J_region ?_  | refine J_drawn mixed (by kernel_rfl) ?_ | refine aApp_sl ?_ | refine aApp_old ?_ | refine J_c ?_ | refine Jc_true ?_ | refine Jc_false ?_ | exact Frz.f _ | (refine Kont.go (by assumption) ?_) | (simp (config := { maxSteps := 3000000 }) (disch := omega) only [go_sem, Nat.reduceEqDiff, ↓reduceIte, Nat.reduceAdd, Nat.reduceLT, Nat.reduceLeDiff, Int.reduceLT, Int.reduceLE, Int.reduceEq, Int.reduceNe, Int.reduceAdd, Int.reduceSub, Int.reduceMul, Int.reduceNeg, Int.reduceToNat, List.length_map, matL_len, hwl0, hnx1])) | refine call_f (pickI _ _ (by omega) (by omega) (by omega) (by omega)) rfl ?_ | refine callQ_f (pickI _ _ (by omega) (by omega) (by omega) (by omega)) rfl ?_ | refine And.intro (by omega) ?_ | refine And.intro (And.intro (by omega) (by omega)) ?_)
        refine ⟨k + 1, by omega, by omega, weak_of ?_ ?_⟩ <;> (try simp (disch := omega) only [go_sem, Nat.reduceAdd, Nat.reduceLT, Nat.reduceEqDiff]) <;> (try first | done | omega | rfl | exact ⟨rfl, rfl⟩ | trivial)
      · have hwp : 0 < w.length := List.length_pos_iff.2 hw0
        have hm : (i * n + k) % w.length < w.length := Nat.mod_lt _ hwp
        have hx := i64_get hw hm
        have hp9 := pickN_lt w[(i * n + k) % w.length] (n := 9) (by omega)
        have hxx : matX w n i k = pickN w[(i * n + k) % w.length] 9 - 3 := by unfold matX; rw [if_neg hw0, lget_lt w 0 hm]
        have hmod : (((i * n : Nat) : Int) + (k : Int)).tmod (w.length : Int) = (((i * n + k) % w.length : Nat) : Int) := tmod_nat (by omega)
        by_cases hneg : pickN w[(i * n + k) % w.length] 9 < 3
        · have hlt3 : (pickN w[(i * n + k) % w.length] 9 : Int) < 3 := by omega
          have hlt0 : (pickN w[(i * n + k) % w.length] 9 : Int) - 3 < 0 := by omega
          have hx0 : matX w n i k = 0 := by omega
          rw [hx0] at hnx
          have hnx0 : (matL w n i k).map I ++ [.v (.int .i64 0)] = (matL w n i (k + 1)).map I := hnx
          repeat (first | (with_reducible first | refine W_seq fun K hK => ?_ | refine J_block ?_ | refine J_skip ?_ | refine J_exit ?_ | refine J_ret ?_ | refine J_region ?_  | refine J_drawn mixed (by kernel_rfl) ?_ | refine aApp_sl ?_ | refine aApp_old ?_ | refine J_c ?_ | refine Jc_true ?_ | refine Jc_false ?_ | exact Frz.f _ | (refine Kont.go (by assumption) ?_) | (simp (config := { maxSteps := 3000000 }) (disch := omega) only [go_sem, Nat.reduceEqDiff, ↓reduceIte, Nat.reduceAdd, Nat.reduceLT, Nat.reduceLeDiff, Int.reduceLT, Int.reduceLE, Int.reduceEq, Int.reduceNe, Int.reduceAdd, Int.reduceSub, Int.reduceMul, Int.reduceNeg, Int.reduceToNat, List.length_map, matL_len, hwp, hcin, hmod, map_get I w hm, hlt0, hnx0])) | refine call_f (pickI _ _ (by omega) (by omega) (by omega) (by omega)) rfl ?_ | refine callQ_f (pickI _ _ (by omega) (by omega) (by omega) (by omega)) rfl ?_ | refine And.intro (by omega) ?_ | refine And.intro (And.intro (by omega) (by omega)) ?_)
          refine ⟨k + 1, by omega, by omega, weak_of ?_ ?_⟩ <;> (try simp (disch := omega) only [go_sem, Nat.reduceAdd, Nat.reduceLT, Nat.reduceEqDiff]) <;> (try first | done | omega | rfl | exact ⟨rfl, rfl⟩ | trivial)
        · have hlt0 : ¬ ((matX w n i k : Nat) : Int) < 0 := by omega
          have hx3 : (pickN w[(i * n + k) % w.length] 9 : Int) - 3 = (matX w n i k : Nat) := by omega
          repeat (first | (with_reducible first | refine W_seq fun K hK => ?_ | refine J_block ?_ | refine J_skip ?_ | refine J_exit ?_ | refine J_ret ?_ | refine J_region ?_  | refine J_drawn mixed (by kernel_rfl) ?_ | refine aApp_sl ?_ | refine aApp_old ?_ | refine J_c ?_ | refine Jc_true ?_ | refine Jc_false ?_ | exact Frz.f _ | (refine Kont.go (by assumption) ?_) | (simp (config := { maxSteps := 3000000 }) (disch := omega) only [go_sem, Nat.reduceEqDiff, ↓reduceIte, Nat.reduceAdd, Nat.reduceLT, Nat.reduceLeDiff, Int.reduceLT, Int.reduceLE, Int.reduceEq, Int.reduceNe, Int.reduceAdd, Int.reduceSub, Int.reduceMul, Int.reduceNeg, Int.reduceToNat, List.length_map, matL_len, hwp, hcin, hmod, map_get I w hm, hlt0, hx3, hnx])) | refine call_f (pickI _ _ (by omega) (by omega) (by omega) (by omega)) rfl ?_ | refine callQ_f (pickI _ _ (by omega) (by omega) (by omega) (by omega)) rfl ?_ | refine And.intro (by omega) ?_ | refine And.intro (And.intro (by omega) (by omega)) ?_)
          refine ⟨k + 1, by omega, by omega, weak_of ?_ ?_⟩ <;> (try simp (disch := omega) only [go_sem, Nat.reduceAdd, Nat.reduceLT, Nat.reduceEqDiff]) <;> (try first | done | omega | rfl | exact ⟨rfl, rfl⟩ | trivial)
    · have he : k = n := by omega
      subst he
      refine J_freeze (j := 7) rfl rfl ?_
      repeat (first | (with_reducible first | refine W_seq fun K hK => ?_ | refine J_block ?_ | refine J_skip ?_ | refine J_exit ?_ | refine J_ret ?_ | refine J_region ?_  | refine J_drawn mixed (by kernel_rfl) ?_ | refine aApp_sl ?_ | refine aApp_old ?_ | refine J_c ?_ | refine Jc_true ?_ | refine Jc_false ?_ | exact Frz.f _ | (refine Kont.go (by assumption) ?_) | (simp (config := { maxSteps := 3000000 }) (disch := omega) only [go_sem, Nat.reduceEqDiff, ↓reduceIte, Nat.reduceAdd, Nat.reduceLT, Nat.reduceLeDiff, Int.reduceLT, Int.reduceLE, Int.reduceEq, Int.reduceNe, Int.reduceAdd, Int.reduceSub, Int.reduceMul, Int.reduceNeg, Int.reduceToNat])) | refine call_f (pickI _ _ (by omega) (by omega) (by omega) (by omega)) rfl ?_ | refine callQ_f (pickI _ _ (by omega) (by omega) (by omega) (by omega)) rfl ?_ | refine And.intro (by omega) ?_ | refine And.intro (And.intro (by omega) (by omega)) ?_)
      refine call_f (rowI (k' := 0) (n' := k) (by omega) rfl (matL_64 w k i k) (by omega) (by omega) (by omega) (by rw [matL_len]; omega)) rfl ?_
      repeat (first | (with_reducible first | refine W_seq fun K hK => ?_ | refine J_block ?_ | refine J_skip ?_ | refine J_exit ?_ | refine J_ret ?_ | refine J_region ?_  | refine J_drawn mixed (by kernel_rfl) ?_ | refine aApp_sl ?_ | refine aApp_old ?_ | refine J_c ?_ | refine Jc_true ?_ | refine Jc_false ?_ | exact Frz.f _ | (refine Kont.go (by assumption) ?_) | (simp (config := { maxSteps := 3000000 }) (disch := omega) only [go_sem, Nat.reduceEqDiff, ↓reduceIte, Nat.reduceAdd, Nat.reduceLT, Nat.reduceLeDiff, Int.reduceLT, Int.reduceLE, Int.reduceEq, Int.reduceNe, Int.reduceAdd, Int.reduceSub, Int.reduceMul, Int.reduceNeg, Int.reduceToNat, matR_next, List.length_map, matR_len])) | refine call_f (pickI _ _ (by omega) (by omega) (by omega) (by omega)) rfl ?_ | refine callQ_f (pickI _ _ (by omega) (by omega) (by omega) (by omega)) rfl ?_ | refine And.intro (by omega) ?_ | refine And.intro (And.intro (by omega) (by omega)) ?_)
      refine ⟨i + 1, by omega, by omega, weak_of ?_ ?_⟩ <;> (try simp (disch := omega) only [go_sem, Nat.reduceAdd, Nat.reduceLT, Nat.reduceEqDiff]) <;> (try first | done | omega | rfl | exact ⟨rfl, rfl⟩ | trivial)
  · have he : i = n := by omega
    subst he
    repeat (first | (with_reducible first | refine W_seq fun K hK => ?_ | refine J_block ?_ | refine J_skip ?_ | refine J_exit ?_ | refine J_ret ?_ | refine J_region ?_  | refine J_drawn mixed (by kernel_rfl) ?_ | refine aApp_sl ?_ | refine aApp_old ?_ | refine J_c ?_ | refine Jc_true ?_ | refine Jc_false ?_ | exact Frz.f _ | (refine Kont.go (by assumption) ?_) | (simp (config := { maxSteps := 3000000 }) (disch := omega) only [go_sem, Nat.reduceEqDiff, ↓reduceIte, Nat.reduceAdd, Nat.reduceLT, Nat.reduceLeDiff, Int.reduceLT, Int.reduceLE, Int.reduceEq, Int.reduceNe, Int.reduceAdd, Int.reduceSub, Int.reduceMul, Int.reduceNeg, Int.reduceToNat])) | refine call_f (pickI _ _ (by omega) (by omega) (by omega) (by omega)) rfl ?_ | refine callQ_f (pickI _ _ (by omega) (by omega) (by omega) (by omega)) rfl ?_ | refine And.intro (by omega) ?_ | refine And.intro (And.intro (by omega) (by omega)) ?_)
    exact Frz.sl rfl
section
variable {w : List Int} {n : Nat}
theorem matR_row : ∀ r ∈ matR w n n, r.length = n := fun r hr => by
  obtain ⟨i, _, rfl⟩ := List.mem_map.1 hr
  exact rowOf_len _ _ _
theorem matR_chances (h : 1 ≤ n) : ∀ r ∈ matR w n n, chancesB r = true := fun r hr => by
  obtain ⟨i, _, rfl⟩ := List.mem_map.1 hr
  exact rowOf_chances _ _ _ h
theorem matR_Row (h : 1 ≤ n) (hn : n ≤ 1000) : ∀ r ∈ matR w n n, Row 8 r := fun r hr => by
  obtain ⟨i, _, rfl⟩ := List.mem_map.1 hr
  exact rowOf_row _ _ _ h hn
theorem matR_chk (h : 1 ≤ n) (hn : n ≤ 6) : chkM (matR w n n) = 0 := by
  unfold chkM sqM
  rw [matR_len, if_neg (by omega), if_neg (fun hh => hh matR_row), if_neg (fun hh => hh (matR_chances h))]
end
end Go.Proofs.YtabmgfchkcmcmaaDoor
