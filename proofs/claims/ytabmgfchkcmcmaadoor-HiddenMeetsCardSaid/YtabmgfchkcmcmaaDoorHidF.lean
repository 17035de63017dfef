/- A hidden chain of raw weights; signs; how likely a way is. Conditions: what slices may hold. -/
import Derived.Test.YtabmgfchkcmcmaaDoorHidE
import Derived.Test.YtabmgfchkcmcmaaDoorRoC
set_option linter.unusedVariables false
set_option linter.unusedSimpArgs false
namespace Go.Proofs.YtabmgfchkcmcmaaDoor
open Go Go.RowKit
def hoS (w : List Int) (n : Nat) : List Rat := rowOf w 0 n
def hoM (w : List Int) (n i : Nat) : List (List Rat) := (List.range i).map fun j => rowOf w (3 + j * n) n
def hoV (w : List Int) (m i : Nat) : List (List Rat) := (List.range i).map fun j => rowOf w (7 + j * m) m
section
variable {w : List Int} {n m i : Nat}
theorem hoM_len : (hoM w n i).length = i := by simp [hoM]
theorem hoV_len : (hoV w m i).length = i := by simp [hoV]
theorem hoM_next : (hoM w n i).map frs ++ [frs (rowOf w (3 + i * n) n)] = (hoM w n (i + 1)).map frs := by simp [hoM, List.range_succ]
theorem hoV_next : (hoV w m i).map frs ++ [frs (rowOf w (7 + i * m) m)] = (hoV w m (i + 1)).map frs := by simp [hoV, List.range_succ]
end
/-- The struct, as far as it is built. -/
def hoE (w : List Int) (n i : Nat) : AV := if i = 0 then .f (.agg [frs (hoS w n), nilF, nilF]) else .agg [.f (frs (hoS w n)), .own 2 1 0 i, .own 3 1 0 i]
theorem hoE_zero {w : List Int} {n : Nat} : hoE w n 0 = .f (.agg [frs (hoS w n), nilF, nilF]) := rfl
theorem hoE_pos {w : List Int} {n i : Nat} (h : 0 < i) : hoE w n i = .agg [.f (frs (hoS w n)), .own 2 1 0 i, .own 3 1 0 i] := by unfold hoE; rw [if_neg (by omega)]
theorem hoM_zero {w : List Int} {n : Nat} : hoM w n 0 = [] := rfl
theorem hoV_zero {w : List Int} {m : Nat} : hoV w m 0 = [] := rfl
theorem hoE_lt0 {w : List Int} {n i N : Nat} (h : 3 < N) : (hoE w n i).lt0 N = true := by
  by_cases h0 : i = 0
  · rw [h0]; rfl
  · rw [hoE_pos (by omega)]
    show (true && (decide (2 < N) && (decide (3 < N) && true))) = true
    simp; omega
attribute [go_sem] hoE_zero hoM_zero hoV_zero hoE_lt0
set_option maxRecDepth 100000 in
set_option maxHeartbeats 4000000 in
theorem hiddenOf_w (w : List Int) (n m : Nat) (hw : ∀ x ∈ w, -9223372036854775808 ≤ x ∧ x ≤ 9223372036854775807) (h1 : 1 ≤ n) (hn : n ≤ 100) (h2 : 1 ≤ m) (hm : m ≤ 100) (hwl : w.length ≤ 140737488355328) :
    Good Tryd.prog 46 [ints w, I n, I m] (hidV ((hoS w n).map fr) ((hoM w n n).map frs) ((hoV w m n).map frs)) := by
  refine good_of Tryd.func46 rfl (by kernel_rfl) fun X hO => ?_; rw [Tryd.ntmps46, Tryd.results46]; simp only [ast0, List.map_cons, List.map_nil, List.length_cons, List.length_nil, Nat.reduceAdd, Nat.reduceSub, List.replicate_succ, List.replicate_zero, List.cons_append, List.nil_append]
  repeat (first | (with_reducible first | refine W_seq fun K hK => ?_ | refine J_block ?_ | refine J_skip ?_ | refine J_exit ?_ | refine J_ret ?_ | refine J_region ?_  | refine J_drawn mixed (by kernel_rfl) ?_ | refine aApp_sl ?_ | refine aApp_old ?_ | refine J_c ?_ | refine Jc_true ?_ | refine Jc_false ?_ | exact Frz.f _ | (refine Kont.go (by assumption) ?_) | (simp (config := { maxSteps := 3000000 }) (disch := omega) only [go_sem, Nat.reduceEqDiff, ↓reduceIte, Nat.reduceAdd, Nat.reduceLT, Nat.reduceLeDiff, Int.reduceLT, Int.reduceLE, Int.reduceEq, Int.reduceNe, Int.reduceAdd, Int.reduceSub, Int.reduceMul, Int.reduceNeg, Int.reduceToNat])) | refine And.intro (by omega) ?_ | refine And.intro (And.intro (by omega) (by omega)) ?_)
  refine call_f (rowI (k' := 0) (n' := n) (by omega) rfl hw (by omega) h1 (by omega) hwl) rfl ?_
  have e0 : AV.f (.agg [frs (rowOf w 0 n), nilF, nilF]) = hoE w n 0 := rfl
  repeat (first | (with_reducible first | refine W_seq fun K hK => ?_ | refine J_block ?_ | refine J_skip ?_ | refine J_exit ?_ | refine J_ret ?_ | refine J_region ?_  | refine J_drawn mixed (by kernel_rfl) ?_ | refine aApp_sl ?_ | refine aApp_old ?_ | refine J_c ?_ | refine Jc_true ?_ | refine Jc_false ?_ | exact Frz.f _ | (refine Kont.go (by assumption) ?_) | (simp (config := { maxSteps := 3000000 }) (disch := omega) only [go_sem, Nat.reduceEqDiff, ↓reduceIte, Nat.reduceAdd, Nat.reduceLT, Nat.reduceLeDiff, Int.reduceLT, Int.reduceLE, Int.reduceEq, Int.reduceNe, Int.reduceAdd, Int.reduceSub, Int.reduceMul, Int.reduceNeg, Int.reduceToNat])) | refine And.intro (by omega) ?_ | refine And.intro (And.intro (by omega) (by omega)) ?_)
  refine J_reserve ?_
  refine J_reserve ?_
  refine W_loop [8, 9, 10, 15, 16, 17, 18, 19, 20, 21, 22, 23, 24, 25, 26, 27, 28, 29, 30, 31, 32, 33, 34, 35, 36, 37, 38, 39, 40, 41, 42, 43, 44, 45] (fun x : Nat => [(8, .f (I x))]) (fun x : Nat => [some ⟨68, 3, [.f (.agg [nilF, nilF, nilF])]⟩, some ⟨68, 3, [hoE w n x]⟩, ob 49 1 ((hoM w n x).map frs), ob 49 1 ((hoV w m x).map frs)]) (fun x : Nat => x ≤ n) (fun x : Nat => n - x) (0) (Nat.zero_le _) (by refine weak_of ?_ ?_ <;> simp only [go_sem, Nat.reduceAdd, Nat.reduceLT, Nat.reduceEqDiff] <;> first | rfl | exact ⟨rfl, rfl⟩ | exact Or.inl rfl | exact ⟨Or.inl rfl, Or.inl rfl⟩ | trivial | assumption | (symm; assumption)) ?_
  rintro i hi
  simp only [go_sem, Nat.reduceAdd, Nat.reduceLT, Nat.reduceEqDiff]
  repeat (first | (with_reducible first | refine W_seq fun K hK => ?_ | refine J_block ?_ | refine J_skip ?_ | refine J_exit ?_ | refine J_ret ?_ | refine J_region ?_  | refine J_drawn mixed (by kernel_rfl) ?_ | refine aApp_sl ?_ | refine aApp_old ?_ | refine J_c ?_ | refine Jc_true ?_ | refine Jc_false ?_ | exact Frz.f _ | (refine Kont.go (by assumption) ?_) | (simp (config := { maxSteps := 3000000 }) (disch := omega) only [go_sem, Nat.reduceEqDiff, ↓reduceIte, Nat.reduceAdd, Nat.reduceLT, Nat.reduceLeDiff, Int.reduceLT, Int.reduceLE, Int.reduceEq, Int.reduceNe, Int.reduceAdd, Int.reduceSub, Int.reduceMul, Int.reduceNeg, Int.reduceToNat])) | refine And.intro (by omega) ?_ | refine And.intro (And.intro (by omega) (by omega)) ?_)
  refine Jc_if (fun hlt => ?_) (fun hlt => ?_) <;> try simp only [decide_eq_true_eq, decide_eq_false_iff_not, Bool.not_eq_true', Bool.not_eq_false', Bool.not_true, Bool.not_false, Int.ofNat_lt, Int.ofNat_le, Int.natCast_inj, Classical.not_not] at hlt
  · have i1 : i * n ≤ 10000 := Nat.mul_le_mul (show i ≤ 100 by omega) hn
    have i2 : i * m ≤ 10000 := Nat.mul_le_mul (show i ≤ 100 by omega) hm
    have k1 : (3 : Int) + (i : Int) * (n : Int) = ((3 + i * n : Nat) : Int) := by rw [Int.natCast_add, Int.natCast_mul]; rfl
    have k2 : (7 : Int) + (i : Int) * (m : Int) = ((7 + i * m : Nat) : Int) := by rw [Int.natCast_add, Int.natCast_mul]; rfl
    have k3 : (i : Int) * (n : Int) = ((i * n : Nat) : Int) := (Int.natCast_mul i n).symm
    have k4 : (i : Int) * (m : Int) = ((i * m : Nat) : Int) := (Int.natCast_mul i m).symm
    have n1 := hoM_next (w := w) (n := n) (i := i)
    have n2 := hoV_next (w := w) (m := m) (i := i)
    have l1 : ((hoM w n i).map frs).length = i := by rw [List.length_map, hoM_len]
    have l2 : ((hoV w m i).map frs).length = i := by rw [List.length_map, hoV_len]
    have l3 : ((hoM w n (i + 1)).map frs).length = i + 1 := by rw [List.length_map, hoM_len]
    have l4 : ((hoV w m (i + 1)).map frs).length = i + 1 := by rw [List.length_map, hoV_len]
    have p1 : (hoM w n (i + 1)).map frs ≠ [] := fun e => by rw [e] at l3; simp at l3
    have p2 : (hoV w m (i + 1)).map frs ≠ [] := fun e => by rw [e] at l4; simp at l4
    have hob1 : ob 49 1 ((hoM w n (i + 1)).map frs) = some ⟨49, 1, ((hoM w n (i + 1)).map frs).map .f⟩ := ob_pos p1
    have hob2 : ob 49 1 ((hoV w m (i + 1)).map frs) = some ⟨49, 1, ((hoV w m (i + 1)).map frs).map .f⟩ := ob_pos p2
    have hE1 := hoE_pos (w := w) (n := n) (show 0 < i + 1 by omega)
    have kk1 : ((3 + i * n : Nat) : Int) ≤ 9223372036854775807 := by omega
    have kk2 : ((7 + i * m : Nat) : Int) ≤ 9223372036854775807 := by omega
    repeat (first | (with_reducible first | refine W_seq fun K hK => ?_ | refine J_block ?_ | refine J_skip ?_ | refine J_exit ?_ | refine J_ret ?_ | refine J_region ?_  | refine J_drawn mixed (by kernel_rfl) ?_ | refine aApp_sl ?_ | refine aApp_old ?_ | refine J_c ?_ | refine Jc_true ?_ | refine Jc_false ?_ | exact Frz.f _ | (refine Kont.go (by assumption) ?_) | (simp (config := { maxSteps := 3000000 }) (disch := omega) only [go_sem, Nat.reduceEqDiff, ↓reduceIte, Nat.reduceAdd, Nat.reduceLT, Nat.reduceLeDiff, Int.reduceLT, Int.reduceLE, Int.reduceEq, Int.reduceNe, Int.reduceAdd, Int.reduceSub, Int.reduceMul, Int.reduceNeg, Int.reduceToNat, k1, k2, k3, k4])) | refine And.intro (by omega) ?_ | refine And.intro (And.intro (by omega) (by omega)) ?_)
    refine call_f (rowI (k' := 3 + i * n) (n' := n) (by omega) rfl hw (by omega) h1 (by omega) hwl) rfl ?_
    repeat (first | (with_reducible first | refine W_seq fun K hK => ?_ | refine J_block ?_ | refine J_skip ?_ | refine J_exit ?_ | refine J_ret ?_ | refine J_region ?_  | refine J_drawn mixed (by kernel_rfl) ?_ | refine aApp_sl ?_ | refine aApp_old ?_ | refine J_c ?_ | refine Jc_true ?_ | refine Jc_false ?_ | exact Frz.f _ | (refine Kont.go (by assumption) ?_) | (simp (config := { maxSteps := 3000000 }) (disch := omega) only [go_sem, Nat.reduceEqDiff, ↓reduceIte, Nat.reduceAdd, Nat.reduceLT, Nat.reduceLeDiff, Int.reduceLT, Int.reduceLE, Int.reduceEq, Int.reduceNe, Int.reduceAdd, Int.reduceSub, Int.reduceMul, Int.reduceNeg, Int.reduceToNat, k1, k2, k3, k4])) | refine And.intro (by omega) ?_ | refine And.intro (And.intro (by omega) (by omega)) ?_)
    refine call_f (rowI (k' := 7 + i * m) (n' := m) (by omega) rfl hw (by omega) h2 (by omega) hwl) rfl ?_
    by_cases h0 : i = 0
    · subst h0
      have q1 : ((hoM w n (0 + 1)).map frs).map AV.f = [AV.f (frs (rowOf w (3 + 0 * n) n))] := by rw [← n1]; rfl
      have q2 : ((hoV w m (0 + 1)).map frs).map AV.f = [AV.f (frs (rowOf w (7 + 0 * m) m))] := by rw [← n2]; rfl
      repeat (first | (with_reducible first | refine W_seq fun K hK => ?_ | refine J_block ?_ | refine J_skip ?_ | refine J_exit ?_ | refine J_ret ?_ | refine J_region ?_  | refine J_drawn mixed (by kernel_rfl) ?_ | refine aApp_sl ?_ | refine aApp_old ?_ | refine J_c ?_ | refine Jc_true ?_ | refine Jc_false ?_ | exact Frz.f _ | (refine Kont.go (by assumption) ?_) | (simp (config := { maxSteps := 3000000 }) (disch := omega) only [go_sem, Nat.reduceEqDiff, ↓reduceIte, Nat.reduceAdd, Nat.reduceLT, Nat.reduceLeDiff, Int.reduceLT, Int.reduceLE, Int.reduceEq, Int.reduceNe, Int.reduceAdd, Int.reduceSub, Int.reduceMul, Int.reduceNeg, Int.reduceToNat, ob_nil])) | refine And.intro (by omega) ?_ | refine And.intro (And.intro (by omega) (by omega)) ?_)
      refine ⟨0 + 1, by omega, by omega, weak_ren [0, 1, 5, 7] ⟨by decide, by first | decide | (simp; done)⟩ ?_ ?_⟩ <;> (try simp only [go_sem, Nat.reduceAdd, Nat.reduceLT, Nat.reduceEqDiff, hob1, hob2, hE1, q1, q2]) <;> (try first | done | omega | rfl | exact ⟨rfl, rfl⟩ | trivial)
    · have hE0 := hoE_pos (w := w) (n := n) (show 0 < i by omega)
      have p3 : (hoM w n i).map frs ≠ [] := fun e => by rw [e] at l1; simp at l1; omega
      have p4 : (hoV w m i).map frs ≠ [] := fun e => by rw [e] at l2; simp at l2; omega
      have hob3 : ob 49 1 ((hoM w n i).map frs) = some ⟨49, 1, ((hoM w n i).map frs).map .f⟩ := ob_pos p3
      have hob4 : ob 49 1 ((hoV w m i).map frs) = some ⟨49, 1, ((hoV w m i).map frs).map .f⟩ := ob_pos p4
      have q1 : (((hoM w n i).map frs).map AV.f).take i ++ [AV.f (frs (rowOf w (3 + i * n) n))] = ((hoM w n (i + 1)).map frs).map AV.f := by rw [List.take_of_length_le (by rw [List.length_map, l1]; omega), ← n1, List.map_append]; rfl
      have q2 : (((hoV w m i).map frs).map AV.f).take i ++ [AV.f (frs (rowOf w (7 + i * m) m))] = ((hoV w m (i + 1)).map frs).map AV.f := by rw [List.take_of_length_le (by rw [List.length_map, l2]; omega), ← n2, List.map_append]; rfl
      repeat (first | (with_reducible first | refine W_seq fun K hK => ?_ | refine J_block ?_ | refine J_skip ?_ | refine J_exit ?_ | refine J_ret ?_ | refine J_region ?_  | refine J_drawn mixed (by kernel_rfl) ?_ | refine aApp_sl ?_ | refine aApp_old ?_ | refine J_c ?_ | refine Jc_true ?_ | refine Jc_false ?_ | exact Frz.f _ | (refine Kont.go (by assumption) ?_) | (simp (config := { maxSteps := 3000000 }) (disch := omega) only [go_sem, Nat.reduceEqDiff, ↓reduceIte, Nat.reduceAdd, Nat.reduceLT, Nat.reduceLeDiff, Int.reduceLT, Int.reduceLE, Int.reduceEq, Int.reduceNe, Int.reduceAdd, Int.reduceSub, Int.reduceMul, Int.reduceNeg, Int.reduceToNat, hE0, hob3, hob4, l1, l2, q1, q2])) | refine And.intro (by omega) ?_ | refine And.intro (And.intro (by omega) (by omega)) ?_)
      refine ⟨i + 1, by omega, by omega, weak_ren [0, 1, 5, 7] ⟨by decide, by first | decide | (simp; done)⟩ ?_ ?_⟩ <;> (try simp only [go_sem, Nat.reduceAdd, Nat.reduceLT, Nat.reduceEqDiff, hob1, hob2, hE1]) <;> (try first | done | omega | rfl | exact ⟨rfl, rfl⟩ | trivial)
  · have he : i = n := by omega
    subst he
    have l1 : ((hoM w i i).map frs).length = i := by rw [List.length_map, hoM_len]
    have l2 : ((hoV w m i).map frs).length = i := by rw [List.length_map, hoV_len]
    have p3 : (hoM w i i).map frs ≠ [] := fun e => by rw [e] at l1; simp at l1; omega
    have p4 : (hoV w m i).map frs ≠ [] := fun e => by rw [e] at l2; simp at l2; omega
    have hob3 : ob 49 1 ((hoM w i i).map frs) = some ⟨49, 1, ((hoM w i i).map frs).map .f⟩ := ob_pos p3
    have hob4 : ob 49 1 ((hoV w m i).map frs) = some ⟨49, 1, ((hoV w m i).map frs).map .f⟩ := ob_pos p4
    have hE0 := hoE_pos (w := w) (n := i) (show 0 < i by omega)
    repeat (first | (with_reducible first | refine W_seq fun K hK => ?_ | refine J_block ?_ | refine J_skip ?_ | refine J_exit ?_ | refine J_ret ?_ | refine J_region ?_  | refine J_drawn mixed (by kernel_rfl) ?_ | refine aApp_sl ?_ | refine aApp_old ?_ | refine J_c ?_ | refine Jc_true ?_ | refine Jc_false ?_ | exact Frz.f _ | (refine Kont.go (by assumption) ?_) | (simp (config := { maxSteps := 3000000 }) (disch := omega) only [go_sem, Nat.reduceEqDiff, ↓reduceIte, Nat.reduceAdd, Nat.reduceLT, Nat.reduceLeDiff, Int.reduceLT, Int.reduceLE, Int.reduceEq, Int.reduceNe, Int.reduceAdd, Int.reduceSub, Int.reduceMul, Int.reduceNeg, Int.reduceToNat, hE0, hob3, hob4])) | refine And.intro (by omega) ?_ | refine And.intro (And.intro (by omega) (by omega)) ?_)
    exact Frz.aggL (FrzL.cons (.f _) (FrzL.cons (Frz.own0 rfl l1.symm) (FrzL.cons (Frz.own0 rfl l2.symm) (FrzL.nil _))))
/-- Signs of raw numbers. -/
def sgL (raw : List Int) (n i : Nat) : List Int := (List.range i).map fun j => ((pickN (raw.getD j 0) n : Nat) : Int)
theorem sgL_len {raw : List Int} {n i : Nat} : (sgL raw n i).length = i := by simp [sgL]
theorem sgL_next {raw : List Int} {n i : Nat} : (sgL raw n i).map I ++ [I (pickN (raw.getD i 0) n : Nat)] = (sgL raw n (i + 1)).map I := by simp [sgL, List.range_succ]
theorem sgL_zero {raw : List Int} {n : Nat} : sgL raw n 0 = [] := rfl
set_option maxRecDepth 100000 in
theorem signs_w (raw : List Int) (n m : Nat) (hw : ∀ x ∈ raw, -9223372036854775808 ≤ x ∧ x ≤ 9223372036854775807) (h1 : 1 ≤ n) (hn : n ≤ 1000) (hm : m ≤ 1000) (hl : raw.length ≤ 140737488355328) :
    Good Tryd.prog 47 [ints raw, I n, I m] (ints (sgL raw n (min raw.length m))) := by
  refine good_of Tryd.func47 rfl (by kernel_rfl) fun X hO => ?_; rw [Tryd.ntmps47, Tryd.results47]; simp only [ast0, List.map_cons, List.map_nil, List.length_cons, List.length_nil, Nat.reduceAdd, Nat.reduceSub, List.replicate_succ, List.replicate_zero, List.cons_append, List.nil_append]
  repeat (first | (with_reducible first | refine W_seq fun K hK => ?_ | refine J_block ?_ | refine J_skip ?_ | refine J_exit ?_ | refine J_ret ?_ | refine J_region ?_  | refine J_drawn mixed (by kernel_rfl) ?_ | refine aApp_sl ?_ | refine aApp_old ?_ | refine J_c ?_ | refine Jc_true ?_ | refine Jc_false ?_ | exact Frz.f _ | (refine Kont.go (by assumption) ?_) | (simp (config := { maxSteps := 3000000 }) (disch := omega) only [go_sem, Nat.reduceEqDiff, ↓reduceIte, Nat.reduceAdd, Nat.reduceLT, Nat.reduceLeDiff, Int.reduceLT, Int.reduceLE, Int.reduceEq, Int.reduceNe, Int.reduceAdd, Int.reduceSub, Int.reduceMul, Int.reduceNeg, Int.reduceToNat])) | refine call_f (pickI _ _ (by omega) (by omega) (by omega) (by omega)) rfl ?_ | refine callQ_f (pickI _ _ (by omega) (by omega) (by omega) (by omega)) rfl ?_ | refine And.intro (by omega) ?_ | refine And.intro (And.intro (by omega) (by omega)) ?_)
  refine J_reserve ?_
  refine W_loop [7, 8, 9, 10, 11, 12, 13, 14, 15, 16, 17, 18, 19, 20, 21, 22, 23, 24, 25, 26, 27, 28] (fun x : Nat => [(8, .f (I x)), (7, sl 0 1 ((sgL raw n x).map I))]) (fun x : Nat => [ob 3 1 ((sgL raw n x).map I)]) (fun x : Nat => x ≤ min raw.length m) (fun x : Nat => min raw.length m - x) (0) (Nat.zero_le _) (by refine weak_of ?_ ?_ <;> simp only [go_sem, Nat.reduceAdd, Nat.reduceLT, Nat.reduceEqDiff] <;> first | rfl | exact ⟨rfl, rfl⟩ | exact Or.inl rfl | exact ⟨Or.inl rfl, Or.inl rfl⟩ | trivial | assumption | (symm; assumption)) ?_
  rintro i hi
  simp only [go_sem, Nat.reduceAdd, Nat.reduceLT, Nat.reduceEqDiff]
  by_cases c1 : i < raw.length
  · by_cases c2 : i < m
    · have hx := i64_get hw c1
      have hg := sgL_next (raw := raw) (n := n) (i := i)
      rw [lget_lt raw 0 c1] at hg
      have hp := pickN_lt raw[i] (n := n) (by omega)
      repeat (first | (with_reducible first | refine W_seq fun K hK => ?_ | refine J_block ?_ | refine J_skip ?_ | refine J_exit ?_ | refine J_ret ?_ | refine J_region ?_  | refine J_drawn mixed (by kernel_rfl) ?_ | refine aApp_sl ?_ | refine aApp_old ?_ | refine J_c ?_ | refine Jc_true ?_ | refine Jc_false ?_ | exact Frz.f _ | (refine Kont.go (by assumption) ?_) | (simp (config := { maxSteps := 3000000 }) (disch := omega) only [go_sem, Nat.reduceEqDiff, ↓reduceIte, Nat.reduceAdd, Nat.reduceLT, Nat.reduceLeDiff, Int.reduceLT, Int.reduceLE, Int.reduceEq, Int.reduceNe, Int.reduceAdd, Int.reduceSub, Int.reduceMul, Int.reduceNeg, Int.reduceToNat, List.length_map, c1, c2, map_get I raw c1, sgL_len, hg])) | refine call_f (pickI _ _ (by omega) (by omega) (by omega) (by omega)) rfl ?_ | refine callQ_f (pickI _ _ (by omega) (by omega) (by omega) (by omega)) rfl ?_ | refine And.intro (by omega) ?_ | refine And.intro (And.intro (by omega) (by omega)) ?_)
      refine ⟨i + 1, by omega, by omega, weak_of ?_ ?_⟩ <;> (try simp only [go_sem, Nat.reduceAdd, Nat.reduceLT, Nat.reduceEqDiff]) <;> (try first | done | omega | rfl | exact ⟨rfl, rfl⟩ | trivial)
    · have he : i = min raw.length m := by omega
      repeat (first | (with_reducible first | refine W_seq fun K hK => ?_ | refine J_block ?_ | refine J_skip ?_ | refine J_exit ?_ | refine J_ret ?_ | refine J_region ?_  | refine J_drawn mixed (by kernel_rfl) ?_ | refine aApp_sl ?_ | refine aApp_old ?_ | refine J_c ?_ | refine Jc_true ?_ | refine Jc_false ?_ | exact Frz.f _ | (refine Kont.go (by assumption) ?_) | (simp (config := { maxSteps := 3000000 }) (disch := omega) only [go_sem, Nat.reduceEqDiff, ↓reduceIte, Nat.reduceAdd, Nat.reduceLT, Nat.reduceLeDiff, Int.reduceLT, Int.reduceLE, Int.reduceEq, Int.reduceNe, Int.reduceAdd, Int.reduceSub, Int.reduceMul, Int.reduceNeg, Int.reduceToNat, List.length_map, c1, c2])) | refine call_f (pickI _ _ (by omega) (by omega) (by omega) (by omega)) rfl ?_ | refine callQ_f (pickI _ _ (by omega) (by omega) (by omega) (by omega)) rfl ?_ | refine And.intro (by omega) ?_ | refine And.intro (And.intro (by omega) (by omega)) ?_)
      rw [he]
      exact Frz.sl rfl
  · have he : i = min raw.length m := by omega
    repeat (first | (with_reducible first | refine W_seq fun K hK => ?_ | refine J_block ?_ | refine J_skip ?_ | refine J_exit ?_ | refine J_ret ?_ | refine J_region ?_  | refine J_drawn mixed (by kernel_rfl) ?_ | refine aApp_sl ?_ | refine aApp_old ?_ | refine J_c ?_ | refine Jc_true ?_ | refine Jc_false ?_ | exact Frz.f _ | (refine Kont.go (by assumption) ?_) | (simp (config := { maxSteps := 3000000 }) (disch := omega) only [go_sem, Nat.reduceEqDiff, ↓reduceIte, Nat.reduceAdd, Nat.reduceLT, Nat.reduceLeDiff, Int.reduceLT, Int.reduceLE, Int.reduceEq, Int.reduceNe, Int.reduceAdd, Int.reduceSub, Int.reduceMul, Int.reduceNeg, Int.reduceToNat, List.length_map, c1])) | refine call_f (pickI _ _ (by omega) (by omega) (by omega) (by omega)) rfl ?_ | refine callQ_f (pickI _ _ (by omega) (by omega) (by omega) (by omega)) rfl ?_ | refine And.intro (by omega) ?_ | refine And.intro (And.intro (by omega) (by omega)) ?_)
    rw [he]
    exact Frz.sl rfl
end Go.Proofs.YtabmgfchkcmcmaaDoor
