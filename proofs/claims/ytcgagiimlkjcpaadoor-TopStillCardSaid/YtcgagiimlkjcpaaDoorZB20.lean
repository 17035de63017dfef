/- chain.Still: walked. Conditions: numbers of 10^4 bytes each. -/
import Derived.Test.YtcgagiimlkjcpaaDoorZStiW
import Derived.Test.YtcgagiimlkjcpaaDoorZB08
set_option linter.unusedVariables false
set_option linter.unusedSimpArgs false
namespace Go.Proofs.YtcgagiimlkjcpaaDoor
open Go Go.RowKit
set_option maxRecDepth 100000 in
theorem still_many_w {b : Nat} {ys : List FV} {m : List (List Rat)} {lv : FV} (hm : FrM b ys m) (h1 : 1 ≤ b) (hb : b ≤ 10000) (hmx : m.length ≤ 140737488355328) (h0 : chkM m = 0)
    (hl : Good Tryd.prog 18 [.fz 1 ys] (.tup [lv, Bo false])) :
    Good Tryd.prog 7 [.fz 1 ys] (.tup [frs [], I 13]) := by
  have hc := check_w hm h1 (by omega) hmx
  rw [h0] at hc
  refine good_of Tryd.func7 rfl (by kernel_rfl) fun X hO hrd => ?_; rw [Tryd.ntmps7, Tryd.results7]; simp only [ast0, List.map_cons, List.map_nil, List.length_cons, List.length_nil, Nat.reduceAdd, Nat.reduceSub, List.replicate_succ, List.replicate_zero, List.cons_append, List.nil_append]
  repeat (first | (with_reducible first | refine W_seq fun K hK => ?_ | refine J_block ?_ | refine J_skip ?_ | refine J_exit ?_ | refine J_ret ?_ | refine J_region ?_  | refine J_drawn mixed (by kernel_rfl) ?_ | refine aApp_sl ?_ | refine aApp_old ?_ | refine J_c ?_ | refine Jc_true ?_ | refine Jc_false ?_ | exact Frz.f _ | (refine Kont.go (by assumption) ?_) | (simp (config := { maxSteps := 3000000 }) (disch := omega) only [go_sem, Nat.reduceEqDiff, ↓reduceIte, Nat.reduceAdd, Nat.reduceLT, Nat.reduceLeDiff, Int.reduceLT, Int.reduceLE, Int.reduceEq, Int.reduceNe, Int.reduceAdd, Int.reduceSub, Int.reduceMul, Int.reduceNeg, Int.reduceToNat])) | refine call_f (of_good (by omega) (by omega)) rfl ?_ | refine callQ_f (of_good (by omega) (by omega)) rfl ?_ | refine And.intro (by omega) ?_ | refine And.intro (And.intro (by omega) (by omega)) ?_)
  refine call_f hc rfl ?_
  repeat (first | (with_reducible first | refine W_seq fun K hK => ?_ | refine J_block ?_ | refine J_skip ?_ | refine J_exit ?_ | refine J_ret ?_ | refine J_region ?_  | refine J_drawn mixed (by kernel_rfl) ?_ | refine aApp_sl ?_ | refine aApp_old ?_ | refine J_c ?_ | refine Jc_true ?_ | refine Jc_false ?_ | exact Frz.f _ | (refine Kont.go (by assumption) ?_) | (simp (config := { maxSteps := 3000000 }) (disch := omega) only [go_sem, Nat.reduceEqDiff, ↓reduceIte, Nat.reduceAdd, Nat.reduceLT, Nat.reduceLeDiff, Int.reduceLT, Int.reduceLE, Int.reduceEq, Int.reduceNe, Int.reduceAdd, Int.reduceSub, Int.reduceMul, Int.reduceNeg, Int.reduceToNat])) | refine call_f (of_good (by omega) (by omega)) rfl ?_ | refine callQ_f (of_good (by omega) (by omega)) rfl ?_ | refine And.intro (by omega) ?_ | refine And.intro (And.intro (by omega) (by omega)) ?_)
  refine call_f hl rfl ?_
  repeat (first | (with_reducible first | refine W_seq fun K hK => ?_ | refine J_block ?_ | refine J_skip ?_ | refine J_exit ?_ | refine J_ret ?_ | refine J_region ?_  | refine J_drawn mixed (by kernel_rfl) ?_ | refine aApp_sl ?_ | refine aApp_old ?_ | refine J_c ?_ | refine Jc_true ?_ | refine Jc_false ?_ | exact Frz.f _ | (refine Kont.go (by assumption) ?_) | (simp (config := { maxSteps := 3000000 }) (disch := omega) only [go_sem, Nat.reduceEqDiff, ↓reduceIte, Nat.reduceAdd, Nat.reduceLT, Nat.reduceLeDiff, Int.reduceLT, Int.reduceLE, Int.reduceEq, Int.reduceNe, Int.reduceAdd, Int.reduceSub, Int.reduceMul, Int.reduceNeg, Int.reduceToNat])) | refine call_f (of_good (by omega) (by omega)) rfl ?_ | refine callQ_f (of_good (by omega) (by omega)) rfl ?_ | refine And.intro (by omega) ?_ | refine And.intro (And.intro (by omega) (by omega)) ?_)
  exact ⟨_, rfl, FrzL.cons (.nil _) (FrzL.cons (.f _) (FrzL.nil _))⟩
def stF (l : List Nat) (sol : List Rat) : Nat → Nat → Rat
  | 0, _ => 0
  | x + 1, k => if k = l.getD x 0 then sol.getD x 0 else stF l sol x k
def stL (n : Nat) (l : List Nat) (sol : List Rat) (x : Nat) : List FV := (List.range n).map fun k => fr (stF l sol x k)
section
variable {n x : Nat} {l : List Nat} {sol : List Rat}
theorem stL_len : (stL n l sol x).length = n := by simp [stL]
theorem stL_get {k : Nat} (h : k < n) : ((stL n l sol x).map AV.f)[k]? = some (.f (fr (stF l sol x k))) := by simp [stL, h]
theorem stL_set (h : l.getD x 0 < n) : ((stL n l sol x).map AV.f).set (l.getD x 0) (.f (fr (sol.getD x 0))) = (stL n l sol (x + 1)).map .f := by
  unfold stL
  rw [← List.map_set, range_set h]
  congr 1
  refine List.map_congr_left fun k _ => ?_
  show (if k = l.getD x 0 then _ else _) = fr (if k = l.getD x 0 then _ else _)
  split <;> rfl
end
set_option maxRecDepth 100000 in
set_option maxHeartbeats 8000000 in
theorem still_one_w {b : Nat} {ys : List FV} {m : List (List Rat)} {l : List Nat} (hm : FrM b ys m) (h1 : 1 ≤ b) (hb : b ≤ 10000) (hmx : m.length ≤ 140737488355328) (h0 : chkM m = 0)
    (hl : Good Tryd.prog 18 [.fz 1 ys] (.tup [.fz 1 (Ns l), Bo true])) (hl1 : 1 ≤ l.length) (hl6 : l.length ≤ 6) (hlm : ∀ s ∈ l, s < m.length) (hsl : (wSol m l).length ≤ l.length) :
    Good Tryd.prog 7 [.fz 1 ys] (.tup [.fz 3 (stL m.length l (wSol m l) (wSol m l).length), I 0]) := by
  have hc := check_w hm h1 (by omega) hmx
  rw [h0] at hc
  obtain ⟨hsq, hn1, hch⟩ := chk_sq hm h0
  have hn6 := hsq.le
  have hw := within_w hsq h1 hb hl1 hl6 hlm
  obtain ⟨n, hn⟩ : ∃ n, n = m.length := ⟨_, rfl⟩
  obtain ⟨sol, hsol⟩ : ∃ sol, sol = wSol m l := ⟨_, rfl⟩
  rw [← hsol] at hw hsl ⊢
  rw [← hn] at hn1 hn6 hlm ⊢
  have hyl : ys.length = n := hm.len.trans hn.symm
  have hz : ∀ z, List.replicate n (AV.f z) = (fillL n 0 (fun _ => fr ((0 : Int) : Rat)) z).map .f := fun z => by rw [fill_zero, List.map_replicate]
  refine good_of Tryd.func7 rfl (by kernel_rfl) fun X hO hrd => ?_; rw [Tryd.ntmps7, Tryd.results7]; simp only [ast0, List.map_cons, List.map_nil, List.length_cons, List.length_nil, Nat.reduceAdd, Nat.reduceSub, List.replicate_succ, List.replicate_zero, List.cons_append, List.nil_append]
  repeat (first | (with_reducible first | refine W_seq fun K hK => ?_ | refine J_block ?_ | refine J_skip ?_ | refine J_exit ?_ | refine J_ret ?_ | refine J_region ?_  | refine J_drawn mixed (by kernel_rfl) ?_ | refine aApp_sl ?_ | refine aApp_old ?_ | refine J_c ?_ | refine Jc_true ?_ | refine Jc_false ?_ | exact Frz.f _ | (refine Kont.go (by assumption) ?_) | (simp (config := { maxSteps := 3000000 }) (disch := omega) only [go_sem, Nat.reduceEqDiff, ↓reduceIte, Nat.reduceAdd, Nat.reduceLT, Nat.reduceLeDiff, Int.reduceLT, Int.reduceLE, Int.reduceEq, Int.reduceNe, Int.reduceAdd, Int.reduceSub, Int.reduceMul, Int.reduceNeg, Int.reduceToNat])) | refine call_f (of_good (by omega) (by omega)) rfl ?_ | refine callQ_f (of_good (by omega) (by omega)) rfl ?_ | refine And.intro (by omega) ?_ | refine And.intro (And.intro (by omega) (by omega)) ?_)
  refine call_f hc rfl ?_
  repeat (first | (with_reducible first | refine W_seq fun K hK => ?_ | refine J_block ?_ | refine J_skip ?_ | refine J_exit ?_ | refine J_ret ?_ | refine J_region ?_  | refine J_drawn mixed (by kernel_rfl) ?_ | refine aApp_sl ?_ | refine aApp_old ?_ | refine J_c ?_ | refine Jc_true ?_ | refine Jc_false ?_ | exact Frz.f _ | (refine Kont.go (by assumption) ?_) | (simp (config := { maxSteps := 3000000 }) (disch := omega) only [go_sem, Nat.reduceEqDiff, ↓reduceIte, Nat.reduceAdd, Nat.reduceLT, Nat.reduceLeDiff, Int.reduceLT, Int.reduceLE, Int.reduceEq, Int.reduceNe, Int.reduceAdd, Int.reduceSub, Int.reduceMul, Int.reduceNeg, Int.reduceToNat])) | refine call_f (of_good (by omega) (by omega)) rfl ?_ | refine callQ_f (of_good (by omega) (by omega)) rfl ?_ | refine And.intro (by omega) ?_ | refine And.intro (And.intro (by omega) (by omega)) ?_)
  refine call_f hl rfl ?_
  repeat (first | (with_reducible first | refine W_seq fun K hK => ?_ | refine J_block ?_ | refine J_skip ?_ | refine J_exit ?_ | refine J_ret ?_ | refine J_region ?_  | refine J_drawn mixed (by kernel_rfl) ?_ | refine aApp_sl ?_ | refine aApp_old ?_ | refine J_c ?_ | refine Jc_true ?_ | refine Jc_false ?_ | exact Frz.f _ | (refine Kont.go (by assumption) ?_) | (simp (config := { maxSteps := 3000000 }) (disch := omega) only [go_sem, Nat.reduceEqDiff, ↓reduceIte, Nat.reduceAdd, Nat.reduceLT, Nat.reduceLeDiff, Int.reduceLT, Int.reduceLE, Int.reduceEq, Int.reduceNe, Int.reduceAdd, Int.reduceSub, Int.reduceMul, Int.reduceNeg, Int.reduceToNat, hyl, hz])) | refine call_f (of_good (by omega) (by omega)) rfl ?_ | refine callQ_f (of_good (by omega) (by omega)) rfl ?_ | refine And.intro (by omega) ?_ | refine And.intro (And.intro (by omega) (by omega)) ?_)
  obtain ⟨zf, hzf⟩ : ∃ zf : FV, zf = .agg [.v (.bool false), .v (.string ⟨#[]⟩), .v (.string ⟨#[]⟩)] := ⟨_, rfl⟩
  rw [← hzf]
  refine W_loop [8, 28, 29, 30, 31, 32, 33, 34, 35] (fun x : Nat => [(28, .f (I x))]) (fun x : Nat => [some ⟨39, 3, (fillL n x (fun _ => fr ((0 : Int) : Rat)) zf).map .f⟩]) (fun x : Nat => x ≤ n) (fun x : Nat => n - x) (0) (Nat.zero_le _) (by refine weak_of ?_ ?_ <;> simp (disch := omega) only [go_sem, Nat.reduceAdd, Nat.reduceLT, Nat.reduceEqDiff] <;> first | rfl | exact ⟨rfl, rfl⟩ | exact Or.inl rfl | exact ⟨Or.inl rfl, Or.inl rfl⟩ | trivial | assumption | omega | (symm; assumption) | ((repeat' apply And.intro) <;> first | rfl | omega | trivial | exact .inr ⟨rfl, rfl⟩ | exact .inr rfl | (right; symm; assumption) | (symm; assumption) | assumption)) ?_
  rintro i hi
  simp only [go_sem, Nat.reduceAdd, Nat.reduceLT, Nat.reduceEqDiff]
  repeat (first | (with_reducible first | refine W_seq fun K hK => ?_ | refine J_block ?_ | refine J_skip ?_ | refine J_exit ?_ | refine J_ret ?_ | refine J_region ?_  | refine J_drawn mixed (by kernel_rfl) ?_ | refine aApp_sl ?_ | refine aApp_old ?_ | refine J_c ?_ | refine Jc_true ?_ | refine Jc_false ?_ | exact Frz.f _ | (refine Kont.go (by assumption) ?_) | (simp (config := { maxSteps := 3000000 }) (disch := omega) only [go_sem, Nat.reduceEqDiff, ↓reduceIte, Nat.reduceAdd, Nat.reduceLT, Nat.reduceLeDiff, Int.reduceLT, Int.reduceLE, Int.reduceEq, Int.reduceNe, Int.reduceAdd, Int.reduceSub, Int.reduceMul, Int.reduceNeg, Int.reduceToNat])) | refine call_f (of_good (by omega) (by omega)) rfl ?_ | refine callQ_f (of_good (by omega) (by omega)) rfl ?_ | refine And.intro (by omega) ?_ | refine And.intro (And.intro (by omega) (by omega)) ?_)
  refine Jc_if (fun hil => ?_) (fun hil => ?_) <;> try simp only [decide_eq_true_eq, decide_eq_false_iff_not, Bool.not_eq_true', Bool.not_eq_false', Bool.not_true, Bool.not_false, Int.ofNat_lt, Int.ofNat_le, Int.natCast_inj, Classical.not_not] at hil
  · have hfs := fillA_set (n := n) (k := i) (f := fun _ => fr ((0 : Int) : Rat)) (z := zf) hil rfl
    have hfg : ((fillL n i (fun _ => fr ((0 : Int) : Rat)) zf).map AV.f)[i]? = some (.f zf) := by rw [fillA_get hil, if_neg (by omega)]
    have hfl : (fillL n i (fun _ => fr ((0 : Int) : Rat)) zf).length = n := fill_len
    repeat (first | (with_reducible first | refine W_seq fun K hK => ?_ | refine J_block ?_ | refine J_skip ?_ | refine J_exit ?_ | refine J_ret ?_ | refine J_region ?_  | refine J_drawn mixed (by kernel_rfl) ?_ | refine aApp_sl ?_ | refine aApp_old ?_ | refine J_c ?_ | refine Jc_true ?_ | refine Jc_false ?_ | exact Frz.f _ | (refine Kont.go (by assumption) ?_) | (simp (config := { maxSteps := 3000000 }) (disch := omega) only [go_sem, Nat.reduceEqDiff, ↓reduceIte, Nat.reduceAdd, Nat.reduceLT, Nat.reduceLeDiff, Int.reduceLT, Int.reduceLE, Int.reduceEq, Int.reduceNe, Int.reduceAdd, Int.reduceSub, Int.reduceMul, Int.reduceNeg, Int.reduceToNat, hfs, hfg, hfl])) | refine call_f (of_good (by omega) (by omega)) rfl ?_ | refine callQ_f (of_good (by omega) (by omega)) rfl ?_ | refine And.intro (by omega) ?_ | refine And.intro (And.intro (by omega) (by omega)) ?_)
    refine ⟨i + 1, by omega, by omega, weak_of ?_ ?_⟩ <;> (try simp (disch := omega) only [go_sem, Nat.reduceAdd, Nat.reduceLT, Nat.reduceEqDiff]) <;> (try first | done | omega | rfl | exact ⟨rfl, rfl⟩ | trivial)
  · have he : i = n := by omega
    subst he
    have hA : fillL i i (fun _ => fr ((0 : Int) : Rat)) zf = stL i l sol 0 := by rw [fill_all]; rfl
    rw [hA]
    repeat (first | (with_reducible first | refine W_seq fun K hK => ?_ | refine J_block ?_ | refine J_skip ?_ | refine J_exit ?_ | refine J_ret ?_ | refine J_region ?_  | refine J_drawn mixed (by kernel_rfl) ?_ | refine aApp_sl ?_ | refine aApp_old ?_ | refine J_c ?_ | refine Jc_true ?_ | refine Jc_false ?_ | exact Frz.f _ | (refine Kont.go (by assumption) ?_) | (simp (config := { maxSteps := 3000000 }) (disch := omega) only [go_sem, Nat.reduceEqDiff, ↓reduceIte, Nat.reduceAdd, Nat.reduceLT, Nat.reduceLeDiff, Int.reduceLT, Int.reduceLE, Int.reduceEq, Int.reduceNe, Int.reduceAdd, Int.reduceSub, Int.reduceMul, Int.reduceNeg, Int.reduceToNat])) | refine call_f (of_good (by omega) (by omega)) rfl ?_ | refine callQ_f (of_good (by omega) (by omega)) rfl ?_ | refine And.intro (by omega) ?_ | refine And.intro (And.intro (by omega) (by omega)) ?_)
    refine call_f hw rfl ?_
    repeat (first | (with_reducible first | refine W_seq fun K hK => ?_ | refine J_block ?_ | refine J_skip ?_ | refine J_exit ?_ | refine J_ret ?_ | refine J_region ?_  | refine J_drawn mixed (by kernel_rfl) ?_ | refine aApp_sl ?_ | refine aApp_old ?_ | refine J_c ?_ | refine Jc_true ?_ | refine Jc_false ?_ | exact Frz.f _ | (refine Kont.go (by assumption) ?_) | (simp (config := { maxSteps := 3000000 }) (disch := omega) only [go_sem, Nat.reduceEqDiff, ↓reduceIte, Nat.reduceAdd, Nat.reduceLT, Nat.reduceLeDiff, Int.reduceLT, Int.reduceLE, Int.reduceEq, Int.reduceNe, Int.reduceAdd, Int.reduceSub, Int.reduceMul, Int.reduceNeg, Int.reduceToNat, List.length_map])) | refine call_f (of_good (by omega) (by omega)) rfl ?_ | refine callQ_f (of_good (by omega) (by omega)) rfl ?_ | refine And.intro (by omega) ?_ | refine And.intro (And.intro (by omega) (by omega)) ?_)
    refine W_loop [9, 10, 40, 41, 42, 43, 44, 45, 46, 47, 48, 49, 50, 51, 52] (fun x : Nat => [(40, .f (I x))]) (fun x : Nat => [some ⟨39, 3, (stL i l sol x).map .f⟩]) (fun x : Nat => x ≤ sol.length) (fun x : Nat => sol.length - x) (0) (Nat.zero_le _) (by refine weak_of ?_ ?_ <;> simp (disch := omega) only [go_sem, Nat.reduceAdd, Nat.reduceLT, Nat.reduceEqDiff] <;> first | rfl | exact ⟨rfl, rfl⟩ | exact Or.inl rfl | exact ⟨Or.inl rfl, Or.inl rfl⟩ | trivial | assumption | omega | (symm; assumption) | ((repeat' apply And.intro) <;> first | rfl | omega | trivial | exact .inr ⟨rfl, rfl⟩ | exact .inr rfl | (right; symm; assumption) | (symm; assumption) | assumption)) ?_
    rintro x hx
    simp only [go_sem, Nat.reduceAdd, Nat.reduceLT, Nat.reduceEqDiff]
    repeat (first | (with_reducible first | refine W_seq fun K hK => ?_ | refine J_block ?_ | refine J_skip ?_ | refine J_exit ?_ | refine J_ret ?_ | refine J_region ?_  | refine J_drawn mixed (by kernel_rfl) ?_ | refine aApp_sl ?_ | refine aApp_old ?_ | refine J_c ?_ | refine Jc_true ?_ | refine Jc_false ?_ | exact Frz.f _ | (refine Kont.go (by assumption) ?_) | (simp (config := { maxSteps := 3000000 }) (disch := omega) only [go_sem, Nat.reduceEqDiff, ↓reduceIte, Nat.reduceAdd, Nat.reduceLT, Nat.reduceLeDiff, Int.reduceLT, Int.reduceLE, Int.reduceEq, Int.reduceNe, Int.reduceAdd, Int.reduceSub, Int.reduceMul, Int.reduceNeg, Int.reduceToNat, List.length_map])) | refine call_f (of_good (by omega) (by omega)) rfl ?_ | refine callQ_f (of_good (by omega) (by omega)) rfl ?_ | refine And.intro (by omega) ?_ | refine And.intro (And.intro (by omega) (by omega)) ?_)
    refine Jc_if (fun hxl => ?_) (fun hxl => ?_) <;> try simp only [decide_eq_true_eq, decide_eq_false_iff_not, Bool.not_eq_true', Bool.not_eq_false', Bool.not_true, Bool.not_false, Int.ofNat_lt, Int.ofNat_le, Int.natCast_inj, Classical.not_not] at hxl
    · have g1 : (Ns l)[x]? = some (I (l.getD x 0 : Nat)) := by unfold Ns; rw [map_get (fun k : Nat => I (k : Int)) l (by omega), lget_lt l 0 (by omega)]
      have g2 : l.getD x 0 < i := by rw [lget_lt l 0 (by omega)]; exact hlm _ (List.getElem_mem _)
      have g3 : (sol.map fr)[x]? = some (fr (sol.getD x 0)) := by rw [map_get fr sol hxl, lget_lt sol 0 hxl]
      have g4 := stL_get (sol := sol) (l := l) (x := x) g2
      have g5 := stL_set (sol := sol) (l := l) (x := x) g2
      have g6 := stL_len (n := i) (sol := sol) (l := l) (x := x)
      have g7 : (Ns l).length = l.length := by unfold Ns; rw [List.length_map]
      repeat (first | (with_reducible first | refine W_seq fun K hK => ?_ | refine J_block ?_ | refine J_skip ?_ | refine J_exit ?_ | refine J_ret ?_ | refine J_region ?_  | refine J_drawn mixed (by kernel_rfl) ?_ | refine aApp_sl ?_ | refine aApp_old ?_ | refine J_c ?_ | refine Jc_true ?_ | refine Jc_false ?_ | exact Frz.f _ | (refine Kont.go (by assumption) ?_) | (simp (config := { maxSteps := 3000000 }) (disch := omega) only [go_sem, Nat.reduceEqDiff, ↓reduceIte, Nat.reduceAdd, Nat.reduceLT, Nat.reduceLeDiff, Int.reduceLT, Int.reduceLE, Int.reduceEq, Int.reduceNe, Int.reduceAdd, Int.reduceSub, Int.reduceMul, Int.reduceNeg, Int.reduceToNat, g1, g2, g3, g4, g5, g6, g7, List.length_map, Nat.reduceMul, Nat.le_refl, true_and, and_true, and_self])) | refine call_f (of_good (by omega) (by omega)) rfl ?_ | refine callQ_f (of_good (by omega) (by omega)) rfl ?_ | refine And.intro (by omega) ?_ | refine And.intro (And.intro (by omega) (by omega)) ?_)
      refine ⟨x + 1, by omega, by omega, weak_of ?_ ?_⟩ <;> (try simp (disch := omega) only [go_sem, Nat.reduceAdd, Nat.reduceLT, Nat.reduceEqDiff]) <;> (try first | done | omega | rfl | exact ⟨rfl, rfl⟩ | trivial)
    · have he : x = sol.length := by omega
      subst he
      repeat (first | (with_reducible first | refine W_seq fun K hK => ?_ | refine J_block ?_ | refine J_skip ?_ | refine J_exit ?_ | refine J_ret ?_ | refine J_region ?_  | refine J_drawn mixed (by kernel_rfl) ?_ | refine aApp_sl ?_ | refine aApp_old ?_ | refine J_c ?_ | refine Jc_true ?_ | refine Jc_false ?_ | exact Frz.f _ | (refine Kont.go (by assumption) ?_) | (simp (config := { maxSteps := 3000000 }) (disch := omega) only [go_sem, Nat.reduceEqDiff, ↓reduceIte, Nat.reduceAdd, Nat.reduceLT, Nat.reduceLeDiff, Int.reduceLT, Int.reduceLE, Int.reduceEq, Int.reduceNe, Int.reduceAdd, Int.reduceSub, Int.reduceMul, Int.reduceNeg, Int.reduceToNat])) | refine call_f (of_good (by omega) (by omega)) rfl ?_ | refine callQ_f (of_good (by omega) (by omega)) rfl ?_ | refine And.intro (by omega) ?_ | refine And.intro (And.intro (by omega) (by omega)) ?_)
      exact ⟨_, rfl, FrzL.cons (Frz.own0 rfl stL_len.symm) (FrzL.cons (.f _) (FrzL.nil _))⟩
end Go.Proofs.YtcgagiimlkjcpaaDoor
set_option linter.unusedVariables false
set_option linter.unusedSimpArgs false
namespace Go.Proofs.YtcgagiimlkjcpaaDoor
open Go Go.RowKit
theorem nodup_inj {l : List Nat} (hd : l.Nodup) {i j : Nat} (hi : i < l.length) (hj : j < l.length) (h : l[i] = l[j]) : i = j := by
  rcases Nat.lt_trichotomy i j with hlt | rfl | hlt
  · exact absurd h (List.pairwise_iff_getElem.1 hd i j hi hj hlt)
  · rfl
  · exact absurd h.symm (List.pairwise_iff_getElem.1 hd j i hj hi hlt)
def inQ (m : List (List Rat)) (l : List Nat) : Mx := fun a c => at2 m (l.getD a 0) (l.getD c 0)
section
variable {m : List (List Rat)} {l : List Nat} {L : Nat}
theorem augS (hL : L = l.length) (hd : l.Nodup) {i k : Nat} (hi : i < L) (hk : k ≤ L) : augM ((List.range l.length).map (wR m l)) ((List.range l.length).map wB) i k = stM L (inQ m l) i k := by
  have hlen : ((List.range l.length).map (wR m l)).length = L := by simp [hL]
  unfold augM stM
  rw [hlen]
  by_cases e : k = L
  · rw [if_pos e, if_pos e]
    have : ((List.range l.length).map wB)[i]? = some (wB i) := by simp [← hL, hi]
    rw [List.getD_eq_getElem?_getD, this]; rfl
  · rw [if_neg e, if_neg e]
    have hk' : k < L := by omega
    have e1 : ((List.range l.length).map (wR m l))[i]? = some (wR m l i) := by simp [← hL, hi]
    have e2 : (wR m l i)[k]? = some (wM m l i k) := by simp [wR, ← hL, hk']
    unfold at2
    rw [List.getD_eq_getElem?_getD (l := (List.range l.length).map (wR m l)), e1]
    show (wR m l i).getD k 0 = _
    rw [List.getD_eq_getElem?_getD, e2]
    show wM m l i k = _
    unfold wM
    by_cases e0 : i = 0
    · rw [if_pos e0, if_pos e0]
    · rw [if_neg e0, if_neg e0]
      unfold inQ
      have : (l.getD k 0 = l.getD i 0) = (k = i) := propext ⟨fun h => by
        rw [lget_lt l 0 (by omega), lget_lt l 0 (by omega)] at h
        exact nodup_inj hd (by omega) (by omega) h, fun h => by rw [h]⟩
      simp only [this]
theorem wSol_spec (h : Irr L (inQ m l)) (hL : L = l.length) (hL0 : 0 < L) (hd : l.Nodup) : ∃ x : Nat → Rat, wSol m l = (List.range L).map x ∧ Stat L (inQ m l) x ∧ sumF x L = 1 := by
  obtain ⟨M, hM⟩ : ∃ M, M = augM ((List.range l.length).map (wR m l)) ((List.range l.length).map wB) := ⟨_, rfl⟩
  have ent : ∀ i k, i < L → k ≤ L → M i k = stM L (inQ m l) i k := fun i k hi hk => hM ▸ augS hL hd hi hk
  have hom : ∀ y, Hom L M y → Hom L (stM L (inQ m l)) y := fun y hy i hi => by
    rw [← hy i hi]; exact sumF_congr fun k hk => by rw [ent i k hi (by omega)]
  obtain ⟨M', hM'⟩ := gs_some (M := M) fun y hy => st_hom h hL0 (hom y hy)
  have hs : Sol L (stM L (inQ m l)) (fun i => M' i L) := fun i hi => by
    have := (gs_sol (x := fun i => M' i L) hM').2 (fun i _ => rfl) i hi
    rw [← ent i L hi (Nat.le_refl _), ← this]
    exact sumF_congr fun k hk => by rw [ent i k hi (by omega)]
  obtain ⟨h1, h2⟩ := st_sol h hL0 hs
  refine ⟨fun i => M' i L, ?_, h1, h2⟩
  unfold wSol solR
  have hlen : ((List.range l.length).map (wR m l)).length = L := by simp [hL]
  rw [hlen, ← hM, hM']
end
theorem getD_app_lt {l l' : List Nat} {c : Nat} (h : c < l.length) : (l ++ l').getD c 0 = l.getD c 0 := by
  rw [List.getD_eq_getElem?_getD, List.getD_eq_getElem?_getD, List.getElem?_append_left h]
theorem sumF_filter (P : Nat → Bool) (f : Nat → Rat) : ∀ n, sumF (fun c => f (((List.range n).filter P).getD c 0)) ((List.range n).filter P).length = sumF (fun k => if P k = true then f k else 0) n := by
  intro n
  induction n with
  | zero => rfl
  | succ n ih =>
    show _ = sumF (fun k => if P k = true then f k else 0) n + (if P n = true then f n else 0)
    rw [← ih, List.range_succ, List.filter_append]
    by_cases h : P n = true
    · have e : List.filter P [n] = [n] := by simp [h]
      rw [if_pos h, e, List.length_append]
      show sumF _ ((List.filter P (List.range n)).length) + _ = _
      congr 1
      · exact sumF_congr fun c hc => by rw [getD_app_lt hc]
      · congr 1
        show f ((List.filter P (List.range n) ++ [n]).getD (List.filter P (List.range n)).length 0) = f n
        rw [List.getD_eq_getElem?_getD, List.getElem?_append_right (Nat.le_refl _), Nat.sub_self]; rfl
    · have e : List.filter P [n] = [] := by simp [h]
      rw [if_neg h, e, List.append_nil, Rat.add_zero]
theorem sumTo_F (l : List Rat) : ∀ i, sumTo l i = sumF (fun k => l.getD k 0) i := by
  intro i
  induction i with
  | zero => rfl
  | succ i ih => show sumTo l i + _ = sumF _ i + _; rw [ih]
theorem sto_of {m : List (List Rat)} {n : Nat} (hn : n = m.length) (hsq : ∀ r ∈ m, r.length = n) (hc : ∀ r ∈ m, chancesB r = true) : Sto n (at2 m) where
  nonneg i k hi hk := by
    have hr := List.getElem_mem (l := m) (n := i) (by omega)
    have h := (of_decide_eq_true (hc _ hr)).1
    unfold at2
    rw [lget_lt m [] (by omega), lget_lt _ 0 (by rw [hsq _ hr]; exact hk)]
    exact h _ (List.getElem_mem _)
  sum i hi := by
    have hr := List.getElem_mem (l := m) (n := i) (by omega)
    have h := (of_decide_eq_true (hc _ hr)).2
    rw [← h]
    unfold sumR
    rw [sumTo_F, hsq _ hr]
    exact sumF_congr fun k _ => by unfold at2; rw [lget_lt m [] (by omega)]
theorem getD_mem {l : List Nat} {c : Nat} (h : c < l.length) : l.getD c 0 ∈ l := by rw [lget_lt l 0 h]; exact List.getElem_mem _
theorem irr_cls {m : List (List Rat)} {n r : Nat} (hs : Sto n (at2 m)) (hr : r < n) (hc : clo n (wsh (edg m) n) r = true) : Irr (cls n (wsh (edg m) n) r).length (inQ m (cls n (wsh (edg m) n) r)) := by
  obtain ⟨R, hR⟩ : ∃ R, R = wsh (edg m) n := ⟨_, rfl⟩
  have hpre : Pre n R := by rw [hR]; exact wsh_pre
  have hst : ∀ i j, i < n → j < n → (R i j = true ↔ Star n (edg m) i j) := fun i j hi hj => by rw [hR]; exact wsh_iff hi hj
  rw [← hR] at hc ⊢
  obtain ⟨l, hl⟩ : ∃ l, l = cls n R r := ⟨_, rfl⟩
  rw [← hl]
  have hlt : ∀ c, l.getD c 0 < n := fun c => by
    by_cases h : c < l.length
    · have := getD_mem h
      rw [hl] at this ⊢
      exact (cls_mem.1 this).1
    · rw [List.getD_eq_getElem?_getD, List.getElem?_eq_none (by omega)]; show 0 < n; omega
  have step : ∀ a k, a ∈ l → k < n → edg m a k = true → k ∈ l := fun a k ha hk he => by
    rw [hl] at ha ⊢
    obtain ⟨h1, h2, h3⟩ := cls_mem.1 ha
    have e1 : R a k = true := (hst a k h1 hk).2 (.step .refl hk he)
    have e2 := hpre.trans r a k h1 h2 e1
    exact cls_mem.2 ⟨hk, e2, clo_iff.1 hc k hk e2⟩
  refine ⟨fun i k => hs.nonneg _ _ (hlt i) (hlt k), fun i hi => ?_, fun i k hi hk => ?_⟩
  · have ha := getD_mem hi
    rw [← hs.sum _ (hlt i)]
    have := sumF_filter (fun k => R r k && R k r) (at2 m (l.getD i 0)) n
    have hll : (List.range n).filter (fun k => R r k && R k r) = l := hl.symm
    rw [hll] at this
    refine this.trans (sumF_congr fun k hk => ?_)
    split
    · rfl
    · rename_i hne
      have h0 := hs.nonneg _ k (hlt i) hk
      refine Rat.le_antisymm h0 (Rat.not_lt.1 fun hlt0 => hne ?_)
      have := step _ k ha hk (decide_eq_true hlt0)
      rw [hl] at this
      obtain ⟨_, h2, h3⟩ := cls_mem.1 this
      rw [h2, h3]; rfl
  · have ha := getD_mem hi
    have hb := getD_mem hk
    rw [hl] at ha hb
    obtain ⟨a1, a2, a3⟩ := cls_mem.1 ha
    obtain ⟨b1, b2, b3⟩ := cls_mem.1 hb
    rw [← hl] at ha hb a1 a2 a3 b1 b2 b3
    have hstar := (hst _ _ a1 b1).1 (hpre.trans _ r _ hr a3 b2)
    have key : ∀ j, Star n (edg m) (l.getD i 0) j → ∃ c, c < l.length ∧ l.getD c 0 = j ∧ Star l.length (posE (inQ m l)) i c := fun j h => by
      induction h with
      | refl => exact ⟨i, hi, rfl, .refl⟩
      | step h hk he ih =>
        rename_i j k
        obtain ⟨c, hc1, hc2, hc3⟩ := ih
        have hm : k ∈ l := step j k (hc2 ▸ getD_mem hc1) hk he
        obtain ⟨d, hd1, hd2⟩ := List.getElem_of_mem hm
        refine ⟨d, hd1, by rw [lget_lt l 0 hd1]; exact hd2, .step hc3 hd1 ?_⟩
        show decide (0 < at2 m (l.getD c 0) (l.getD d 0)) = true
        rw [hc2, lget_lt l 0 hd1, hd2]
        exact he
    obtain ⟨c, h1, h2, h3⟩ := key _ hstar
    have : c = k := nodup_inj (by rw [hl]; exact cls_nodup) h1 hk (by rw [lget_lt l 0 h1, lget_lt l 0 hk] at h2; exact h2)
    rw [← this]; exact h3
theorem stF_at {l : List Nat} {sol : List Rat} (hd : l.Nodup) {c : Nat} : ∀ {x : Nat}, x ≤ l.length → c < x → stF l sol x (l.getD c 0) = sol.getD c 0 := by
  intro x
  induction x with
  | zero => intro _ h; omega
  | succ x ih =>
    intro hx hc
    show (if l.getD c 0 = l.getD x 0 then sol.getD x 0 else stF l sol x (l.getD c 0)) = _
    split
    · rename_i e
      rw [lget_lt l 0 (by omega), lget_lt l 0 (by omega)] at e
      rw [nodup_inj hd (by omega) (by omega) e]
    · rename_i e
      have : c ≠ x := fun h => e (by rw [h])
      exact ih (by omega) (by omega)
theorem stF_out {l : List Nat} {sol : List Rat} {k : Nat} (hk : k ∉ l) : ∀ {x : Nat}, x ≤ l.length → stF l sol x k = 0 := by
  intro x
  induction x with
  | zero => intro _; rfl
  | succ x ih =>
    intro hx
    show (if k = l.getD x 0 then sol.getD x 0 else stF l sol x k) = 0
    rw [if_neg (fun e : k = l.getD x 0 => hk (by rw [e]; exact getD_mem (by omega)))]
    exact ih (by omega)
theorem cls_step {m : List (List Rat)} {n r a k : Nat} (hr : r < n) (hc : clo n (wsh (edg m) n) r = true) (ha : a ∈ cls n (wsh (edg m) n) r) (hk : k < n) (he : edg m a k = true) : k ∈ cls n (wsh (edg m) n) r := by
  obtain ⟨h1, h2, h3⟩ := cls_mem.1 ha
  have hpre : Pre n (wsh (edg m) n) := wsh_pre
  have e1 : wsh (edg m) n a k = true := (wsh_iff h1 hk).2 (.step .refl hk he)
  have e2 := hpre.trans r a k h1 h2 e1
  exact cls_mem.2 ⟨hk, e2, clo_iff.1 hc k hk e2⟩
theorem stF_stat {m : List (List Rat)} {n r : Nat} {x : Nat → Rat} {sol : List Rat} {l : List Nat} (hs : Sto n (at2 m)) (hr : r < n) (hc : clo n (wsh (edg m) n) r = true) (hl : l = cls n (wsh (edg m) n) r)
    (hx : Stat l.length (inQ m l) x) (hsol : ∀ c, c < l.length → sol.getD c 0 = x c) : ∀ k, k < n → sumF (fun i => stF l sol l.length i * at2 m i k) n = stF l sol l.length k := fun k hk => by
  have hd : l.Nodup := by rw [hl]; exact cls_nodup
  have hf := sumF_filter (fun k => wsh (edg m) n r k && wsh (edg m) n k r) (fun i => stF l sol l.length i * at2 m i k) n
  have hll : (List.range n).filter (fun k => wsh (edg m) n r k && wsh (edg m) n k r) = l := hl.symm
  rw [hll] at hf
  have e1 : sumF (fun i => stF l sol l.length i * at2 m i k) n = sumF (fun c => x c * at2 m (l.getD c 0) k) l.length := by
    refine Eq.trans (sumF_congr fun i hi => ?_) (hf.symm.trans (sumF_congr fun c hc => by rw [stF_at hd (Nat.le_refl _) hc, hsol c hc]))
    split
    · rfl
    · rename_i hne
      rw [stF_out (l := l) (fun hm => hne ?_) (Nat.le_refl _), Rat.zero_mul]
      rw [hl] at hm
      obtain ⟨_, h2, h3⟩ := cls_mem.1 hm
      rw [h2, h3]; rfl
  rw [e1]
  by_cases hkm : k ∈ l
  · obtain ⟨d, hd1, hd2⟩ := List.getElem_of_mem hkm
    have hd3 : l.getD d 0 = k := by rw [lget_lt l 0 hd1]; exact hd2
    rw [← hd3, stF_at hd (Nat.le_refl _) hd1, hsol d hd1]
    exact hx d hd1
  · rw [stF_out hkm (Nat.le_refl _)]
    have : ∀ c, c < l.length → x c * at2 m (l.getD c 0) k = 0 := fun c hc' => by
      have hm := getD_mem hc'
      have hlt : l.getD c 0 < n := by have := hm; rw [hl] at this; rw [hl]; exact (cls_mem.1 this).1
      have h0 : at2 m (l.getD c 0) k = 0 := Rat.le_antisymm (Rat.not_lt.1 fun h => hkm (by rw [hl]; exact cls_step hr hc (by rw [hl] at hm; rw [← hl] at hm ⊢; exact hm) hk (decide_eq_true h))) (hs.nonneg _ k hlt hk)
      rw [h0, Rat.mul_zero]
    rw [sumF_congr this]
    clear hf hx e1 this hll hsol
    induction l.length with
    | zero => rfl
    | succ j ih => show sumF _ j + 0 = 0; rw [ih]; grind
theorem last_ex {n : Nat} {R : Bx} (p : Pre n R) (hn : 0 < n) : ∃ q r, r < n ∧ clo n R r = true ∧ q < (shutL n R n).length ∧ (shutL n R n).getD q false = true ∧ (∀ j, j < q → (shutL n R n).getD j false = false) ∧ (repL n R n).getD q [] = cls n R r := by
  obtain ⟨i, hi, hc⟩ := clo_ex p hn
  obtain ⟨r, hr, hrep, hm⟩ := rep_ex p hi
  have hcr := clo_class p hi hm hc
  have hin : true ∈ shutL n R n := List.mem_map.2 ⟨r, List.mem_filter.2 ⟨List.mem_range.2 hr, hrep⟩, hcr⟩
  have hq : (shutL n R n).findIdx id < (shutL n R n).length := List.findIdx_lt_length_of_exists ⟨true, hin, rfl⟩
  obtain ⟨q, eq⟩ : ∃ q, q = (shutL n R n).findIdx id := ⟨_, rfl⟩
  have hqt : (shutL n R n)[(shutL n R n).findIdx id] = true := List.findIdx_getElem (p := id) (w := hq)
  have hlen : ((List.range n).filter (isRep n R)).length = (shutL n R n).length := by unfold shutL; rw [List.length_map]
  have hqr : (shutL n R n).findIdx id < ((List.range n).filter (isRep n R)).length := by omega
  refine ⟨(shutL n R n).findIdx id, ((List.range n).filter (isRep n R))[(shutL n R n).findIdx id], ?_, ?_, hq, ?_, fun j hj => ?_, ?_⟩
  · exact List.mem_range.1 (List.mem_filter.1 (List.getElem_mem hqr)).1
  · rw [← hqt]; simp [shutL]
  · rw [lget_lt _ false hq]; exact hqt
  · have := List.not_of_lt_findIdx hj
    rw [lget_lt _ false (by omega)]
    simpa using this
  · have hr2 : (shutL n R n).findIdx id < (repL n R n).length := by unfold repL; rw [List.length_map]; exact hqr
    rw [lget_lt _ [] hr2]; simp [repL]
theorem stF_sum {n : Nat} {R : Bx} {r : Nat} {x : Nat → Rat} {sol : List Rat} {l : List Nat} (hl : l = cls n R r) (hsol : ∀ c, c < l.length → sol.getD c 0 = x c) : sumF (stF l sol l.length) n = sumF x l.length := by
  have hd : l.Nodup := by rw [hl]; exact cls_nodup
  have hf := sumF_filter (fun k => R r k && R k r) (stF l sol l.length) n
  have hll : (List.range n).filter (fun k => R r k && R k r) = l := hl.symm
  rw [hll] at hf
  refine Eq.trans (sumF_congr fun i hi => ?_) (hf.symm.trans (sumF_congr fun c hc => by rw [stF_at hd (Nat.le_refl _) hc, hsol c hc]))
  split
  · rfl
  · rename_i hne
    refine stF_out (l := l) (fun hm => hne ?_) (Nat.le_refl _)
    rw [hl] at hm
    obtain ⟨_, h2, h3⟩ := cls_mem.1 hm
    rw [h2, h3]; rfl
end Go.Proofs.YtcgagiimlkjcpaaDoor
set_option linter.unusedVariables false
set_option linter.unusedSimpArgs false
namespace Go.Proofs.YtcgagiimlkjcpaaDoor
open Go Go.RowKit
def CanTo (n : Nat) (A : Mx) (S C : Nat → Bool) : Prop := ∀ i, i < n → (C i = true ↔ ∃ t, t < n ∧ S t = true ∧ Star n (posE A) i t)
theorem argmax_ex (y : Nat → Rat) : ∀ {n : Nat}, 0 < n → ∃ i, i < n ∧ ∀ k, k < n → y k ≤ y i := by
  intro n
  induction n with
  | zero => intro h; omega
  | succ n ih =>
    intro _
    by_cases h0 : n = 0
    · subst h0
      exact ⟨0, by omega, fun k hk => by rw [show k = 0 by omega]; exact Rat.le_refl⟩
    · obtain ⟨i, hi, hm⟩ := ih (by omega)
      by_cases h : y n ≤ y i
      · refine ⟨i, by omega, fun k hk => ?_⟩
        by_cases e : k = n
        · rw [e]; exact h
        · exact hm k (by omega)
      · have h' := Rat.not_le.1 h
        refine ⟨n, by omega, fun k hk => ?_⟩
        by_cases e : k = n
        · rw [e]; exact Rat.le_refl
        · exact Rat.le_trans (hm k (by omega)) (Rat.le_of_lt h')
section
variable {n : Nat} {A : Mx} {S C : Nat → Bool} {y h : Nat → Rat}
theorem CanTo.back (hC : CanTo n A S C) {i k : Nat} (hi : i < n) (hk : k < n) (he : 0 < A i k) (h : C k = true) : C i = true := by
  obtain ⟨t, ht, hS, hst⟩ := (hC k hk).1 h
  exact (hC i hi).2 ⟨t, ht, hS, (Star.step .refl hk (decide_eq_true he)).trans hst⟩
theorem max_pr (hs : Sto n A) (hC : CanTo n A S C) {B : Rat} (hB : ∀ i, i < n → (S i = true ∨ C i = false) → y i ≤ B)
    (hy : ∀ i, i < n → S i = false → C i = true → y i ≤ sumF (fun k => A i k * y k) n) : ∀ i, i < n → y i ≤ B := by
  intro i hi
  refine Rat.not_lt.1 fun hlt => ?_
  obtain ⟨a, ha, hm⟩ := argmax_ex y (n := n) (by omega)
  have hMB : B < y a := Std.lt_of_lt_of_le hlt (hm i hi)
  have key : ∀ j, Star n (posE A) a j → y j = y a := fun j hst => by
    induction hst with
    | refl => rfl
    | step hst hk he ih =>
      rename_i j k
      have hj := hst.lt ha
      have hn : ¬ (S j = true ∨ C j = false) := fun hh => by
        have := hB j hj hh
        rw [ih] at this
        exact Rat.not_lt.2 this hMB
      have hSj : S j = false := by cases hc : S j <;> simp_all
      have hCj : C j = true := by cases hc : C j <;> simp_all
      have h1 := hy j hj hSj hCj
      have h2 : sumF (fun k => A j k * (y a - y k)) n = y a - sumF (fun k => A j k * y k) n := by
        have e : sumF (fun k => A j k * y a) n = y a := by rw [← sumF_mulr, hs.sum j hj, Rat.one_mul]
        have e3 : sumF (fun k => A j k * (y a - y k)) n = sumF (fun k => A j k * y a - A j k * y k) n := sumF_congr fun k _ => by grind
        rw [e3, sumF_sub, e]
      have hnn : ∀ k, k < n → 0 ≤ A j k * (y a - y k) := fun k hk => Rat.mul_nonneg (hs.nonneg j k hj hk) (by have := hm k hk; grind)
      have h0 : sumF (fun k => A j k * (y a - y k)) n = 0 := by
        refine Rat.le_antisymm ?_ (sumF_nonneg hnn)
        rw [h2]
        rw [ih] at h1
        grind
      have hz := sumF_zero_each hnn h0 k hk
      have hpos : 0 < A j k := of_decide_eq_true he
      rcases Rat.mul_eq_zero.1 hz with hh | hh
      · rw [hh] at hpos; exact absurd hpos (by decide)
      · grind
  have hCa : C a = true := by
    cases hc : C a with
    | true => rfl
    | false => exact absurd (hB a ha (.inr hc)) (Rat.not_le.2 hMB)
  obtain ⟨t, ht, hSt, hst⟩ := (hC a ha).1 hCa
  have := hB t ht (.inl hSt)
  rw [key t hst] at this
  exact Rat.not_lt.2 this hMB
structure Hit (n : Nat) (A : Mx) (S C : Nat → Bool) (h : Nat → Rat) : Prop where
  there : ∀ i, i < n → S i = true → h i = 1
  never : ∀ i, i < n → C i = false → h i = 0
  next : ∀ i, i < n → S i = false → C i = true → h i = sumF (fun k => A i k * h k) n
theorem Hit.le (hh : Hit n A S C h) (hs : Sto n A) (hC : CanTo n A S C) : ∀ i, i < n → h i ≤ 1 :=
  max_pr hs hC (fun i hi c => by
    rcases c with c | c
    · rw [hh.there i hi c]; exact Rat.le_refl
    · rw [hh.never i hi c]; decide) fun i hi a b => by rw [← hh.next i hi a b]; exact Rat.le_refl
theorem Hit.ge (hh : Hit n A S C h) (hs : Sto n A) (hC : CanTo n A S C) : ∀ i, i < n → 0 ≤ h i := by
  have := max_pr hs hC (B := 0) (y := fun i => - h i) (fun i hi c => by
    show - h i ≤ 0
    rcases c with c | c
    · rw [hh.there i hi c]; decide
    · rw [hh.never i hi c]; decide) (fun i hi a b => by
    have e : sumF (fun k => A i k * - h k) n = - sumF (fun k => A i k * h k) n := by rw [← sumF_neg]; exact sumF_congr fun k _ => by grind
    show - h i ≤ sumF (fun k => A i k * - h k) n
    rw [e, ← hh.next i hi a b]; exact Rat.le_refl)
  intro i hi
  have := this i hi
  grind
theorem Hit.step (hh : Hit n A S C h) (hs : Sto n A) (hC : CanTo n A S C) : ∀ i, i < n → S i = false → h i = sumF (fun k => A i k * h k) n := fun i hi hS => by
  cases hc : C i with
  | true => exact hh.next i hi hS hc
  | false =>
    rw [hh.never i hi hc]
    refine ((sumF_congr fun k hk => ?_).trans (sumF_zero (n := n))).symm
    by_cases he : 0 < A i k
    · have : C k = false := by
        cases h' : C k with
        | false => rfl
        | true => have := hC.back hi hk he h'; simp_all
      rw [hh.never k hk this, Rat.mul_zero]
    · rw [show A i k = 0 from Rat.le_antisymm (Rat.not_lt.1 he) (hs.nonneg i k hi hk), Rat.zero_mul]
theorem Hit.pos (hh : Hit n A S C h) (hs : Sto n A) (hC : CanTo n A S C) {i : Nat} (hi : i < n) (hc : C i = true) : 0 < h i := by
  have key : ∀ j, Star n (posE A) i j → 0 < h j → 0 < h i := fun j hst => by
    induction hst with
    | refl => exact id
    | step hst hk he ih =>
      rename_i j k
      refine fun hp => ih ?_
      have hj := hst.lt hi
      cases hS : S j with
      | true => rw [hh.there j hj hS]; decide
      | false =>
        rw [hh.step hs hC j hj hS]
        have := sumF_ge (f := fun k => A j k * h k) (fun k hk => Rat.mul_nonneg (hs.nonneg j k hj hk) (hh.ge hs hC k hk)) hk
        exact Std.lt_of_lt_of_le (Rat.mul_pos (of_decide_eq_true he) hp) this
  obtain ⟨t, ht, hS, hst⟩ := (hC i hi).1 hc
  exact key t hst (by rw [hh.there t ht hS]; decide)
theorem Hit.zero (hh : Hit n A S C h) (hs : Sto n A) (hC : CanTo n A S C) {i : Nat} (hi : i < n) : (h i = 0) = (C i = false) := propext ⟨fun e => by
  cases hc : C i with
  | false => rfl
  | true => have := hh.pos hs hC hi hc; rw [e] at this; exact absurd this (by decide), hh.never i hi⟩
end
end Go.Proofs.YtcgagiimlkjcpaaDoor
set_option linter.unusedVariables false
set_option linter.unusedSimpArgs false
namespace Go.Proofs.YtcgagiimlkjcpaaDoor
open Go Go.RowKit
def bckM (L : Nat) (Q : Mx) (i : Nat) : Mx := fun n k => if k = L then 1 else if k = i then (if n = k then 1 else 0) else (if n = k then 1 else 0) - Q n k
section
variable {L i : Nat} {Q : Mx} {x y p : Nat → Rat}
def offI (i : Nat) (y : Nat → Rat) : Nat → Rat := fun k => if k = i then 0 else y k
theorem Irr.sto (h : Irr L Q) : Sto L Q := ⟨fun i k _ _ => h.nonneg i k, fun i hi => h.sum i hi⟩
theorem bck_row {n : Nat} (hn : n < L) : sumF (fun k => bckM L Q i n k * y k) L = y n - sumF (fun k => Q n k * offI i y k) L := by
  have e : sumF (fun k => (if n = k then (1 : Rat) else 0) * y k) L = y n := by
    rw [sumF_single (i := n) (fun k _ hne => by rw [if_neg (Ne.symm hne), Rat.zero_mul]) hn, if_pos rfl, Rat.one_mul]
  conv => rhs; rw [← e]
  rw [← sumF_sub]
  refine sumF_congr fun k hk => ?_
  unfold bckM offI
  rw [if_neg (by omega)]
  by_cases h : k = i
  · rw [if_pos h, if_pos h, Rat.mul_zero]; grind
  · rw [if_neg h, if_neg h]; grind
theorem can_all (h : Irr L Q) (hi : i < L) : CanTo L Q (fun t => decide (t = i)) (fun _ => true) := fun n hn =>
  ⟨fun _ => ⟨i, hi, decide_eq_true rfl, h.con n i hn hi⟩, fun _ => rfl⟩
theorem off_zero (h : Irr L Q) (hi : i < L) (hz : ∀ n, n < L → n ≠ i → y n = sumF (fun k => Q n k * y k) L) (h0 : y i = 0) : ∀ n, n < L → y n = 0 := by
  have u1 := max_pr h.sto (can_all h hi) (B := 0) (y := y) (fun n hn hh => by
    rcases hh with hh | hh
    · rw [of_decide_eq_true hh, h0]; exact Rat.le_refl
    · cases hh) (fun n hn a b => by rw [← hz n hn (of_decide_eq_false a)]; exact Rat.le_refl)
  have u2 := max_pr h.sto (can_all h hi) (B := 0) (y := fun n => - y n) (fun n hn hh => by
    rcases hh with hh | hh
    · show - y n ≤ 0; rw [of_decide_eq_true hh, h0]; decide
    · cases hh) (fun n hn a b => by
    have e : sumF (fun k => Q n k * - y k) L = - sumF (fun k => Q n k * y k) L := by rw [← sumF_neg]; exact sumF_congr fun k _ => by grind
    show - y n ≤ sumF (fun k => Q n k * - y k) L
    rw [e, ← hz n hn (of_decide_eq_false a)]; exact Rat.le_refl)
  intro n hn
  have := u1 n hn
  have := u2 n hn
  grind
theorem bck_hom (h : Irr L Q) (hi : i < L) (hy : Hom L (bckM L Q i) y) : ∀ n, n < L → y n = 0 := by
  have e : ∀ n, n < L → y n = sumF (fun k => Q n k * offI i y k) L := fun n hn => by
    have := hy n hn
    rw [bck_row hn] at this
    grind
  have hz := off_zero (y := offI i y) h hi (fun n hn hne => by
    have : offI i y n = y n := if_neg hne
    rw [this]; exact e n hn) (if_pos rfl)
  intro n hn
  rw [e n hn]
  exact sumF_eq_zero fun k hk => by rw [hz k hk, Rat.mul_zero]
theorem kac (h : Irr L Q) (hi : i < L) (hp : Stat L Q p) (h1 : sumF p L = 1) (hx : ∀ n, n < L → x n = 1 + sumF (fun k => Q n k * offI i x k) L) : p i * x i = 1 := by
  have a : sumF (fun n => p n * x n) L = sumF p L + sumF (fun k => p k * offI i x k) L := by
    have e1 : sumF (fun n => p n * x n) L = sumF (fun n => p n + sumF (fun k => p n * Q n k * offI i x k) L) L := sumF_congr fun n hn => by
      rw [hx n hn, show p n * (1 + sumF (fun k => Q n k * offI i x k) L) = p n + p n * sumF (fun k => Q n k * offI i x k) L by grind, sumF_mul]
      congr 1
      exact sumF_congr fun k _ => by rw [Rat.mul_assoc]
    rw [e1, sumF_add, sumF_swap (h := fun n k => p n * Q n k * offI i x k)]
    congr 1
    refine sumF_congr fun k hk => ?_
    rw [← sumF_mulr, hp k hk]
  have b : sumF (fun k => p k * offI i x k) L = sumF (fun n => p n * x n) L - p i * x i := by
    have e2 : sumF (fun k => p k * x k - p k * offI i x k) L = p i * x i := by
      rw [sumF_single (i := i) (fun k _ hne => by unfold offI; rw [if_neg hne]; grind) hi]
      unfold offI; rw [if_pos rfl, Rat.mul_zero]; grind
    rw [sumF_sub] at e2
    grind
  rw [h1, b] at a
  grind
end
end Go.Proofs.YtcgagiimlkjcpaaDoor
