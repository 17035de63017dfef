/- The document's classes, and the closed one: walked. Conditions: numbers of 10^6 bytes each. -/
import Derived.Test.YtabmgfchkcmcmaaDoorZComW
import Derived.Test.YtabmgfchkcmcmaaDoorZCycL
set_option linter.unusedVariables false
set_option linter.unusedSimpArgs false
namespace Go.Proofs.YtabmgfchkcmcmaaDoor
open Go Go.RowKit
theorem com_R {m : List (List Rat)} {n i k : Nat} (hi : i < n) (hk : k < n) : decide (k ∈ comL n (edg m) i) = wsh (edg m) n i k := by
  have h1 := comL_mem (E := edg m) hi k
  have h2 := wsh_iff (E := edg m) hi hk
  cases hb : wsh (edg m) n i k with
  | true => exact decide_eq_true (h1.2 (h2.1 hb))
  | false => exact decide_eq_false fun h => by rw [h2.2 (h1.1 h)] at hb; cases hb
theorem clo_len {m : List (List Rat)} {n i : Nat} (hi : i < n) : decide ((comL n (edg m) i).length = (cls n (wsh (edg m) n) i).length) = clo n (wsh (edg m) n) i := by
  obtain ⟨R, hR⟩ : ∃ R, R = wsh (edg m) n := ⟨_, rfl⟩
  have hmem : ∀ k, k ∈ comL n (edg m) i ↔ k < n ∧ R i k = true := fun k => by
    rw [hR]
    constructor
    · intro h
      have hk := comL_lt hi k h
      exact ⟨hk, (wsh_iff hi hk).2 ((comL_mem hi k).1 h)⟩
    · rintro ⟨hk, h⟩
      exact (comL_mem hi k).2 ((wsh_iff hi hk).1 h)
  have hp : (comL n (edg m) i).length = ((List.range n).filter (R i)).length := by
    have nd2 : ((List.range n).filter (R i)).Nodup := List.Pairwise.filter _ List.nodup_range
    exact ((List.perm_ext_iff_of_nodup (comL_nd hi) nd2).2 fun k => by rw [hmem, List.mem_filter, List.mem_range]).length_eq
  have hc : cls n R i = ((List.range n).filter (R i)).filter (fun k => R k i) := by
    unfold cls
    rw [List.filter_filter]
    exact List.filter_congr fun k _ => Bool.and_comm _ _
  rw [hp, ← hR, hc]
  cases hb : clo n R i with
  | true =>
    have := clo_iff.1 hb
    refine decide_eq_true ?_
    have hself : List.filter (fun k => R k i) (List.filter (R i) (List.range n)) = List.filter (R i) (List.range n) := List.filter_eq_self.2 fun k hk => by
      obtain ⟨h1, h2⟩ := List.mem_filter.1 hk
      exact this k (List.mem_range.1 h1) h2
    rw [hself]
  | false =>
    refine decide_eq_false fun e => ?_
    have hno : clo n R i = true := clo_iff.2 fun k hk h => Classical.byContradiction fun hn => by
      have := List.length_filter_lt_length_iff_exists (p := fun k => R k i).2 ⟨k, List.mem_filter.2 ⟨List.mem_range.2 hk, h⟩, hn⟩
      omega
    rw [hb] at hno
    cases hno
theorem rcheck0 {b : Nat} {ys : List FV} {m : List (List Rat)} (hm : FrM b ys m) (h1 : 1 ≤ b) (hb : b ≤ 1000000) (hmx : m.length ≤ 140737488355328) (h0 : chkM m = 0) : Good Tryd.prog 113 [.fz 1 ys] (I 0) := by
  have := rcheck_w hm h1 (by omega) hmx
  rwa [h0] at this
set_option maxRecDepth 100000 in
set_option maxHeartbeats 8000000 in
theorem rclasses_w {b : Nat} {ys : List FV} {m : List (List Rat)} (hm : FrM b ys m) (h1 : 1 ≤ b) (hb : b ≤ 1000000) (hmx : m.length ≤ 140737488355328) (h0 : chkM m = 0) :
    Good Tryd.prog 133 [.fz 1 ys] (.tup [.fz 1 (repF m.length (wsh (edg m) m.length) m.length), .fz 1 (shutF m.length (wsh (edg m) m.length) m.length), I 0]) := by
  have hc := rcheck0 hm h1 hb hmx h0
  obtain ⟨hsq, hn1, hch⟩ := chk_sq hm h0
  have hn6 := hsq.le
  have hco := fun i (hi : i < m.length) => rcomes_w (i := i) hsq h1 hb hi
  have hcR := fun i k (hi : i < m.length) (hk : k < m.length) => com_R (m := m) hi hk
  have hcl := fun i (hi : i < m.length) => clo_len (m := m) hi
  have hcn := fun i (hi : i < m.length) => nodup_le (comL_nd (E := edg m) hi) (comL_lt hi)
  obtain ⟨n, hn⟩ : ∃ n, n = m.length := ⟨_, rfl⟩
  rw [← hn] at hn1 hn6 hco hcR hcl hcn ⊢
  obtain ⟨R, hR⟩ : ∃ R, R = wsh (edg m) n := ⟨_, rfl⟩
  rw [← hR] at hcR hcl ⊢
  have hpre : Pre n R := by rw [hR]; exact wsh_pre
  have hyl : ys.length = n := hm.len.trans hn.symm
  refine good_of Tryd.func133 rfl (by kernel_rfl) fun X hO => ?_; rw [Tryd.ntmps133, Tryd.results133]; simp only [ast0, List.map_cons, List.map_nil, List.length_cons, List.length_nil, Nat.reduceAdd, Nat.reduceSub, List.replicate_succ, List.replicate_zero, List.cons_append, List.nil_append]
  repeat (first | (with_reducible first | refine W_seq fun K hK => ?_ | refine J_block ?_ | refine J_skip ?_ | refine J_exit ?_ | refine J_ret ?_ | refine J_region ?_  | refine J_drawn mixed (by kernel_rfl) ?_ | refine aApp_sl ?_ | refine aApp_old ?_ | refine J_c ?_ | refine Jc_true ?_ | refine Jc_false ?_ | exact Frz.f _ | (refine Kont.go (by assumption) ?_) | (simp (config := { maxSteps := 3000000 }) (disch := omega) only [go_sem, Nat.reduceEqDiff, ↓reduceIte, Nat.reduceAdd, Nat.reduceLT, Nat.reduceLeDiff, Int.reduceLT, Int.reduceLE, Int.reduceEq, Int.reduceNe, Int.reduceAdd, Int.reduceSub, Int.reduceMul, Int.reduceNeg, Int.reduceToNat])) | refine And.intro (by omega) ?_ | refine And.intro (And.intro (by omega) (by omega)) ?_)
  refine call_f hc rfl ?_
  repeat (first | (with_reducible first | refine W_seq fun K hK => ?_ | refine J_block ?_ | refine J_skip ?_ | refine J_exit ?_ | refine J_ret ?_ | refine J_region ?_  | refine J_drawn mixed (by kernel_rfl) ?_ | refine aApp_sl ?_ | refine aApp_old ?_ | refine J_c ?_ | refine Jc_true ?_ | refine Jc_false ?_ | exact Frz.f _ | (refine Kont.go (by assumption) ?_) | (simp (config := { maxSteps := 3000000 }) (disch := omega) only [go_sem, Nat.reduceEqDiff, ↓reduceIte, Nat.reduceAdd, Nat.reduceLT, Nat.reduceLeDiff, Int.reduceLT, Int.reduceLE, Int.reduceEq, Int.reduceNe, Int.reduceAdd, Int.reduceSub, Int.reduceMul, Int.reduceNeg, Int.reduceToNat])) | refine And.intro (by omega) ?_ | refine And.intro (And.intro (by omega) (by omega)) ?_)
  refine J_reserve ?_
  refine J_reserve ?_
  refine W_loop [6, 7, 8, 9, 10, 11, 12, 13, 19, 20, 21, 22, 23, 24, 25, 26, 27, 28, 29, 30, 31, 32, 33, 34, 35, 36, 37, 38, 39, 40, 41, 42, 43, 44, 45, 46, 47, 48, 49, 50, 51, 52, 53, 54, 55, 56, 57, 58, 59, 60, 61, 62, 63, 64, 65, 66] (fun x : Nat => [(6, sl 0 1 (repF n R x)), (7, sl 1 1 (shutF n R x)), (8, .f (I x))]) (fun x : Nat => [ob 23 1 (repF n R x), ob 4 1 (shutF n R x)]) (fun x : Nat => x ≤ n) (fun x : Nat => n - x) (0) (Nat.zero_le _) (by refine weak_of ?_ ?_ <;> simp (disch := omega) only [go_sem, Nat.reduceAdd, Nat.reduceLT, Nat.reduceEqDiff] <;> first | rfl | exact ⟨rfl, rfl⟩ | exact Or.inl rfl | exact ⟨Or.inl rfl, Or.inl rfl⟩ | trivial | assumption | omega | (symm; assumption) | ((repeat' apply And.intro) <;> first | rfl | omega | trivial | exact .inr ⟨rfl, rfl⟩ | exact .inr rfl | (right; symm; assumption) | (symm; assumption) | assumption)) ?_
  rintro i hi
  simp only [go_sem, Nat.reduceAdd, Nat.reduceLT, Nat.reduceEqDiff]
  repeat (first | (with_reducible first | refine W_seq fun K hK => ?_ | refine J_block ?_ | refine J_skip ?_ | refine J_exit ?_ | refine J_ret ?_ | refine J_region ?_  | refine J_drawn mixed (by kernel_rfl) ?_ | refine aApp_sl ?_ | refine aApp_old ?_ | refine J_c ?_ | refine Jc_true ?_ | refine Jc_false ?_ | exact Frz.f _ | (refine Kont.go (by assumption) ?_) | (simp (config := { maxSteps := 3000000 }) (disch := omega) only [go_sem, Nat.reduceEqDiff, ↓reduceIte, Nat.reduceAdd, Nat.reduceLT, Nat.reduceLeDiff, Int.reduceLT, Int.reduceLE, Int.reduceEq, Int.reduceNe, Int.reduceAdd, Int.reduceSub, Int.reduceMul, Int.reduceNeg, Int.reduceToNat, hyl])) | refine And.intro (by omega) ?_ | refine And.intro (And.intro (by omega) (by omega)) ?_)
  refine Jc_if (fun hil => ?_) (fun hil => ?_) <;> try simp only [decide_eq_true_eq, decide_eq_false_iff_not, Bool.not_eq_true', Bool.not_eq_false', Bool.not_true, Bool.not_false, Int.ofNat_lt, Int.ofNat_le, Int.natCast_inj, Classical.not_not] at hil
  · have hci := hco i hil
    repeat (first | (with_reducible first | refine W_seq fun K hK => ?_ | refine J_block ?_ | refine J_skip ?_ | refine J_exit ?_ | refine J_ret ?_ | refine J_region ?_  | refine J_drawn mixed (by kernel_rfl) ?_ | refine aApp_sl ?_ | refine aApp_old ?_ | refine J_c ?_ | refine Jc_true ?_ | refine Jc_false ?_ | exact Frz.f _ | (refine Kont.go (by assumption) ?_) | (simp (config := { maxSteps := 3000000 }) (disch := omega) only [go_sem, Nat.reduceEqDiff, ↓reduceIte, Nat.reduceAdd, Nat.reduceLT, Nat.reduceLeDiff, Int.reduceLT, Int.reduceLE, Int.reduceEq, Int.reduceNe, Int.reduceAdd, Int.reduceSub, Int.reduceMul, Int.reduceNeg, Int.reduceToNat, hyl])) | refine And.intro (by omega) ?_ | refine And.intro (And.intro (by omega) (by omega)) ?_)
    refine call_f hci rfl ?_
    repeat (first | (with_reducible first | refine W_seq fun K hK => ?_ | refine J_block ?_ | refine J_skip ?_ | refine J_exit ?_ | refine J_ret ?_ | refine J_region ?_  | refine J_drawn mixed (by kernel_rfl) ?_ | refine aApp_sl ?_ | refine aApp_old ?_ | refine J_c ?_ | refine Jc_true ?_ | refine Jc_false ?_ | exact Frz.f _ | (refine Kont.go (by assumption) ?_) | (simp (config := { maxSteps := 3000000 }) (disch := omega) only [go_sem, Nat.reduceEqDiff, ↓reduceIte, Nat.reduceAdd, Nat.reduceLT, Nat.reduceLeDiff, Int.reduceLT, Int.reduceLE, Int.reduceEq, Int.reduceNe, Int.reduceAdd, Int.reduceSub, Int.reduceMul, Int.reduceNeg, Int.reduceToNat])) | refine And.intro (by omega) ?_ | refine And.intro (And.intro (by omega) (by omega)) ?_)
    refine J_reserve ?_
    refine W_loop [9, 11, 12, 13, 28, 29, 30, 31, 32, 33, 34, 35, 36, 37, 38, 39, 40, 41, 42, 43, 44, 45, 46, 47, 48, 49] (fun x : Nat => [(9, sl 2 1 (Ns (clsK R i x))), (11, .f (I x))]) (fun x : Nat => [ob 23 1 (repF n R i), ob 4 1 (shutF n R i), ob 3 1 (Ns (clsK R i x))]) (fun x : Nat => x ≤ n) (fun x : Nat => n - x) (0) (Nat.zero_le _) (by refine weak_of ?_ ?_ <;> simp (disch := omega) only [go_sem, Nat.reduceAdd, Nat.reduceLT, Nat.reduceEqDiff] <;> first | rfl | exact ⟨rfl, rfl⟩ | exact Or.inl rfl | exact ⟨Or.inl rfl, Or.inl rfl⟩ | trivial | assumption | omega | (symm; assumption) | ((repeat' apply And.intro) <;> first | rfl | omega | trivial | exact .inr ⟨rfl, rfl⟩ | exact .inr rfl | (right; symm; assumption) | (symm; assumption) | assumption)) ?_
    rintro k hk
    simp only [go_sem, Nat.reduceAdd, Nat.reduceLT, Nat.reduceEqDiff]
    repeat (first | (with_reducible first | refine W_seq fun K hK => ?_ | refine J_block ?_ | refine J_skip ?_ | refine J_exit ?_ | refine J_ret ?_ | refine J_region ?_  | refine J_drawn mixed (by kernel_rfl) ?_ | refine aApp_sl ?_ | refine aApp_old ?_ | refine J_c ?_ | refine Jc_true ?_ | refine Jc_false ?_ | exact Frz.f _ | (refine Kont.go (by assumption) ?_) | (simp (config := { maxSteps := 3000000 }) (disch := omega) only [go_sem, Nat.reduceEqDiff, ↓reduceIte, Nat.reduceAdd, Nat.reduceLT, Nat.reduceLeDiff, Int.reduceLT, Int.reduceLE, Int.reduceEq, Int.reduceNe, Int.reduceAdd, Int.reduceSub, Int.reduceMul, Int.reduceNeg, Int.reduceToNat, hyl])) | refine And.intro (by omega) ?_ | refine And.intro (And.intro (by omega) (by omega)) ?_)
    refine Jc_if (fun hkl => ?_) (fun hkl => ?_) <;> try simp only [decide_eq_true_eq, decide_eq_false_iff_not, Bool.not_eq_true', Bool.not_eq_false', Bool.not_true, Bool.not_false, Int.ofNat_lt, Int.ofNat_le, Int.natCast_inj, Classical.not_not] at hkl
    · have hi1 := rinN_w k (comL n (edg m) i) (by omega) (by have := hcn i hil; omega)
      have hi2 := rinN_w i (comL n (edg m) k) (by omega) (by have := hcn k hkl; omega)
      rw [hcR i k hil hkl] at hi1
      rw [hcR k i hkl hil] at hi2
      have hck := hco k hkl
      have hll := clsK_len (R := R) (i := i) (k := k)
      repeat (first | (with_reducible first | refine W_seq fun K hK => ?_ | refine J_block ?_ | refine J_skip ?_ | refine J_exit ?_ | refine J_ret ?_ | refine J_region ?_  | refine J_drawn mixed (by kernel_rfl) ?_ | refine aApp_sl ?_ | refine aApp_old ?_ | refine J_c ?_ | refine Jc_true ?_ | refine Jc_false ?_ | exact Frz.f _ | (refine Kont.go (by assumption) ?_) | (simp (config := { maxSteps := 3000000 }) (disch := omega) only [go_sem, Nat.reduceEqDiff, ↓reduceIte, Nat.reduceAdd, Nat.reduceLT, Nat.reduceLeDiff, Int.reduceLT, Int.reduceLE, Int.reduceEq, Int.reduceNe, Int.reduceAdd, Int.reduceSub, Int.reduceMul, Int.reduceNeg, Int.reduceToNat])) | refine And.intro (by omega) ?_ | refine And.intro (And.intro (by omega) (by omega)) ?_)
      refine call_f hi1 rfl ?_
      repeat (first | (with_reducible first | refine W_seq fun K hK => ?_ | refine J_block ?_ | refine J_skip ?_ | refine J_exit ?_ | refine J_ret ?_ | refine J_region ?_  | refine J_drawn mixed (by kernel_rfl) ?_ | refine aApp_sl ?_ | refine aApp_old ?_ | refine J_c ?_ | refine Jc_true ?_ | refine Jc_false ?_ | exact Frz.f _ | (refine Kont.go (by assumption) ?_) | (simp (config := { maxSteps := 3000000 }) (disch := omega) only [go_sem, Nat.reduceEqDiff, ↓reduceIte, Nat.reduceAdd, Nat.reduceLT, Nat.reduceLeDiff, Int.reduceLT, Int.reduceLE, Int.reduceEq, Int.reduceNe, Int.reduceAdd, Int.reduceSub, Int.reduceMul, Int.reduceNeg, Int.reduceToNat])) | refine And.intro (by omega) ?_ | refine And.intro (And.intro (by omega) (by omega)) ?_)
      refine call_f hck rfl ?_
      repeat (first | (with_reducible first | refine W_seq fun K hK => ?_ | refine J_block ?_ | refine J_skip ?_ | refine J_exit ?_ | refine J_ret ?_ | refine J_region ?_  | refine J_drawn mixed (by kernel_rfl) ?_ | refine aApp_sl ?_ | refine aApp_old ?_ | refine J_c ?_ | refine Jc_true ?_ | refine Jc_false ?_ | exact Frz.f _ | (refine Kont.go (by assumption) ?_) | (simp (config := { maxSteps := 3000000 }) (disch := omega) only [go_sem, Nat.reduceEqDiff, ↓reduceIte, Nat.reduceAdd, Nat.reduceLT, Nat.reduceLeDiff, Int.reduceLT, Int.reduceLE, Int.reduceEq, Int.reduceNe, Int.reduceAdd, Int.reduceSub, Int.reduceMul, Int.reduceNeg, Int.reduceToNat])) | refine And.intro (by omega) ?_ | refine And.intro (And.intro (by omega) (by omega)) ?_)
      refine call_f hi2 rfl ?_
      by_cases hb : (R i k && R k i) = true
      · obtain ⟨b1, b2⟩ := Bool.and_eq_true_iff.1 hb
        have hnx := clsK_yes hb
        rw [b1, b2]
        repeat (first | (with_reducible first | refine W_seq fun K hK => ?_ | refine J_block ?_ | refine J_skip ?_ | refine J_exit ?_ | refine J_ret ?_ | refine J_region ?_  | refine J_drawn mixed (by kernel_rfl) ?_ | refine aApp_sl ?_ | refine aApp_old ?_ | refine J_c ?_ | refine Jc_true ?_ | refine Jc_false ?_ | exact Frz.f _ | (refine Kont.go (by assumption) ?_) | (simp (config := { maxSteps := 3000000 }) (disch := omega) only [go_sem, Nat.reduceEqDiff, ↓reduceIte, Nat.reduceAdd, Nat.reduceLT, Nat.reduceLeDiff, Int.reduceLT, Int.reduceLE, Int.reduceEq, Int.reduceNe, Int.reduceAdd, Int.reduceSub, Int.reduceMul, Int.reduceNeg, Int.reduceToNat, hnx])) | refine And.intro (by omega) ?_ | refine And.intro (And.intro (by omega) (by omega)) ?_)
        refine ⟨k + 1, by omega, by omega, weak_of ?_ ?_⟩ <;> (try simp (disch := omega) only [go_sem, Nat.reduceAdd, Nat.reduceLT, Nat.reduceEqDiff]) <;> (try first | done | omega | rfl | exact ⟨rfl, rfl⟩ | trivial)
      · have hbf : (R i k && R k i) = false := by simpa using hb
        cases b1 : R i k with
        | false =>
          repeat (first | (with_reducible first | refine W_seq fun K hK => ?_ | refine J_block ?_ | refine J_skip ?_ | refine J_exit ?_ | refine J_ret ?_ | refine J_region ?_  | refine J_drawn mixed (by kernel_rfl) ?_ | refine aApp_sl ?_ | refine aApp_old ?_ | refine J_c ?_ | refine Jc_true ?_ | refine Jc_false ?_ | exact Frz.f _ | (refine Kont.go (by assumption) ?_) | (simp (config := { maxSteps := 3000000 }) (disch := omega) only [go_sem, Nat.reduceEqDiff, ↓reduceIte, Nat.reduceAdd, Nat.reduceLT, Nat.reduceLeDiff, Int.reduceLT, Int.reduceLE, Int.reduceEq, Int.reduceNe, Int.reduceAdd, Int.reduceSub, Int.reduceMul, Int.reduceNeg, Int.reduceToNat])) | refine And.intro (by omega) ?_ | refine And.intro (And.intro (by omega) (by omega)) ?_)
          rw [clsK_no hbf]
          refine ⟨k + 1, by omega, by omega, weak_of ?_ ?_⟩ <;> (try simp (disch := omega) only [go_sem, Nat.reduceAdd, Nat.reduceLT, Nat.reduceEqDiff]) <;> (try first | done | omega | rfl | exact ⟨rfl, rfl⟩ | trivial)
        | true =>
          have b2 : R k i = false := by rw [b1] at hbf; simpa using hbf
          rw [b2]
          repeat (first | (with_reducible first | refine W_seq fun K hK => ?_ | refine J_block ?_ | refine J_skip ?_ | refine J_exit ?_ | refine J_ret ?_ | refine J_region ?_  | refine J_drawn mixed (by kernel_rfl) ?_ | refine aApp_sl ?_ | refine aApp_old ?_ | refine J_c ?_ | refine Jc_true ?_ | refine Jc_false ?_ | exact Frz.f _ | (refine Kont.go (by assumption) ?_) | (simp (config := { maxSteps := 3000000 }) (disch := omega) only [go_sem, Nat.reduceEqDiff, ↓reduceIte, Nat.reduceAdd, Nat.reduceLT, Nat.reduceLeDiff, Int.reduceLT, Int.reduceLE, Int.reduceEq, Int.reduceNe, Int.reduceAdd, Int.reduceSub, Int.reduceMul, Int.reduceNeg, Int.reduceToNat])) | refine And.intro (by omega) ?_ | refine And.intro (And.intro (by omega) (by omega)) ?_)
          rw [clsK_no hbf]
          refine ⟨k + 1, by omega, by omega, weak_of ?_ ?_⟩ <;> (try simp (disch := omega) only [go_sem, Nat.reduceAdd, Nat.reduceLT, Nat.reduceEqDiff]) <;> (try first | done | omega | rfl | exact ⟨rfl, rfl⟩ | trivial)
    · have he : k = n := by omega
      subst he
      obtain ⟨c0, cl, ecl⟩ := List.exists_cons_of_ne_nil (List.ne_nil_of_mem (cls_self hpre hil))
      have e1 : Ns (clsK R i k) = Ns (cls k R i) := rfl
      have hd : (Ns (cls k R i))[0]? = some (I (c0 : Int)) := by rw [ecl]; rfl
      have hlp : 0 < (Ns (cls k R i)).length := by rw [ecl]; simp [Ns]
      have hlm : (Ns (cls k R i)).length ≤ 6 := by rw [← e1]; exact Nat.le_trans clsK_len hn6
      have hrl := repF_len (n := k) (R := R) (x := i)
      have hsl := shutF_len (n := k) (R := R) (x := i)
      rw [e1]
      refine J_freeze (j := 9) rfl rfl ?_
      have hri : isRep k R i = decide (c0 = i) := by unfold isRep; rw [ecl]; show (some c0 == some i) = _; by_cases e : c0 = i <;> simp [e]
      by_cases e : c0 = i
      · have hy : isRep k R i = true := by rw [hri]; exact decide_eq_true e
        have e2 := hcl i hil
        repeat (first | (with_reducible first | refine W_seq fun K hK => ?_ | refine J_block ?_ | refine J_skip ?_ | refine J_exit ?_ | refine J_ret ?_ | refine J_region ?_  | refine J_drawn mixed (by kernel_rfl) ?_ | refine aApp_sl ?_ | refine aApp_old ?_ | refine J_c ?_ | refine Jc_true ?_ | refine Jc_false ?_ | exact Frz.f _ | (refine Kont.go (by assumption) ?_) | (simp (config := { maxSteps := 3000000 }) (disch := omega) only [go_sem, Nat.reduceEqDiff, ↓reduceIte, Nat.reduceAdd, Nat.reduceLT, Nat.reduceLeDiff, Int.reduceLT, Int.reduceLE, Int.reduceEq, Int.reduceNe, Int.reduceAdd, Int.reduceSub, Int.reduceMul, Int.reduceNeg, Int.reduceToNat, hd, hlp, e, Ns_len, e2, Int.natCast_inj])) | refine And.intro (by omega) ?_ | refine And.intro (And.intro (by omega) (by omega)) ?_)
        rw [repF_yes hy, shutF_yes hy]
        refine ⟨i + 1, by omega, by omega, weak_of ?_ ?_⟩ <;> (try simp (disch := omega) only [go_sem, Nat.reduceAdd, Nat.reduceLT, Nat.reduceEqDiff]) <;> (try first | done | omega | rfl | exact ⟨rfl, rfl⟩ | trivial)
      · have hy : isRep k R i = false := by rw [hri]; exact decide_eq_false e
        repeat (first | (with_reducible first | refine W_seq fun K hK => ?_ | refine J_block ?_ | refine J_skip ?_ | refine J_exit ?_ | refine J_ret ?_ | refine J_region ?_  | refine J_drawn mixed (by kernel_rfl) ?_ | refine aApp_sl ?_ | refine aApp_old ?_ | refine J_c ?_ | refine Jc_true ?_ | refine Jc_false ?_ | exact Frz.f _ | (refine Kont.go (by assumption) ?_) | (simp (config := { maxSteps := 3000000 }) (disch := omega) only [go_sem, Nat.reduceEqDiff, ↓reduceIte, Nat.reduceAdd, Nat.reduceLT, Nat.reduceLeDiff, Int.reduceLT, Int.reduceLE, Int.reduceEq, Int.reduceNe, Int.reduceAdd, Int.reduceSub, Int.reduceMul, Int.reduceNeg, Int.reduceToNat, hd, hlp, e, Int.natCast_inj])) | refine And.intro (by omega) ?_ | refine And.intro (And.intro (by omega) (by omega)) ?_)
        rw [repF_no hy, shutF_no hy]
        refine ⟨i + 1, by omega, by omega, weak_of ?_ ?_⟩ <;> (try simp (disch := omega) only [go_sem, Nat.reduceAdd, Nat.reduceLT, Nat.reduceEqDiff]) <;> (try first | done | omega | rfl | exact ⟨rfl, rfl⟩ | trivial)
  · have he : i = n := by omega
    subst he
    repeat (first | (with_reducible first | refine W_seq fun K hK => ?_ | refine J_block ?_ | refine J_skip ?_ | refine J_exit ?_ | refine J_ret ?_ | refine J_region ?_  | refine J_drawn mixed (by kernel_rfl) ?_ | refine aApp_sl ?_ | refine aApp_old ?_ | refine J_c ?_ | refine Jc_true ?_ | refine Jc_false ?_ | exact Frz.f _ | (refine Kont.go (by assumption) ?_) | (simp (config := { maxSteps := 3000000 }) (disch := omega) only [go_sem, Nat.reduceEqDiff, ↓reduceIte, Nat.reduceAdd, Nat.reduceLT, Nat.reduceLeDiff, Int.reduceLT, Int.reduceLE, Int.reduceEq, Int.reduceNe, Int.reduceAdd, Int.reduceSub, Int.reduceMul, Int.reduceNeg, Int.reduceToNat])) | refine And.intro (by omega) ?_ | refine And.intro (And.intro (by omega) (by omega)) ?_)
    exact ⟨_, rfl, FrzL.cons (Frz.sl rfl) (FrzL.cons (Frz.sl rfl) (FrzL.cons (.f _) (FrzL.nil _)))⟩
def cntT (bs : List Bool) : Nat → Nat
  | 0 => 0
  | x + 1 => if bs.getD x false = true then cntT bs x + 1 else cntT bs x
def lstC (cs : List (List Nat)) (bs : List Bool) : Nat → FV
  | 0 => nilV
  | x + 1 => if bs.getD x false = true then .fz 1 (Ns (cs.getD x [])) else lstC cs bs x
theorem cntT_le {bs : List Bool} : ∀ x, cntT bs x ≤ x := by
  intro x
  induction x with
  | zero => exact Nat.le_refl _
  | succ x ih => show (if bs.getD x false = true then cntT bs x + 1 else cntT bs x) ≤ x + 1; split <;> omega
set_option maxRecDepth 100000 in
set_option maxHeartbeats 8000000 in
theorem rclosed_w {b : Nat} {ys : List FV} {m : List (List Rat)} (hm : FrM b ys m) (h1 : 1 ≤ b) (hb : b ≤ 1000000) (hmx : m.length ≤ 140737488355328) (h0 : chkM m = 0) :
    Good Tryd.prog 61 [.fz 1 ys] (.tup [lstC (repL m.length (wsh (edg m) m.length) m.length) (shutL m.length (wsh (edg m) m.length) m.length) (shutL m.length (wsh (edg m) m.length) m.length).length, Bo (decide (cntT (shutL m.length (wsh (edg m) m.length) m.length) (shutL m.length (wsh (edg m) m.length) m.length).length = 1))]) := by
  have hc := rclasses_w hm h1 hb hmx h0
  have hn6 := (chk_sq hm h0).1.le
  obtain ⟨n, hn⟩ : ∃ n, n = m.length := ⟨_, rfl⟩
  rw [← hn] at hc hn6 ⊢
  obtain ⟨R, hR⟩ : ∃ R, R = wsh (edg m) n := ⟨_, rfl⟩
  rw [← hR] at hc ⊢
  have hsl : (shutL n R n).length ≤ 6 := by have := shutF_len (n := n) (R := R) (x := n); unfold shutF at this; rw [List.length_map] at this; omega
  have hrs : (repL n R n).length = (shutL n R n).length := by unfold repL shutL; rw [List.length_map, List.length_map]
  obtain ⟨C, hC⟩ : ∃ C, C = repL n R n := ⟨_, rfl⟩
  obtain ⟨B, hB⟩ : ∃ B, B = shutL n R n := ⟨_, rfl⟩
  have e1 : repF n R n = C.map fun l => .fz 1 (Ns l) := by rw [hC]; rfl
  have e2 : shutF n R n = B.map Bo := by rw [hB]; rfl
  rw [e1, e2] at hc
  rw [← hC, ← hB] at hrs ⊢
  rw [← hB] at hsl
  refine good_of Tryd.func61 rfl (by kernel_rfl) fun X hO => ?_; rw [Tryd.ntmps61, Tryd.results61]; simp only [ast0, List.map_cons, List.map_nil, List.length_cons, List.length_nil, Nat.reduceAdd, Nat.reduceSub, List.replicate_succ, List.replicate_zero, List.cons_append, List.nil_append]
  repeat (first | (with_reducible first | refine W_seq fun K hK => ?_ | refine J_block ?_ | refine J_skip ?_ | refine J_exit ?_ | refine J_ret ?_ | refine J_region ?_  | refine J_drawn mixed (by kernel_rfl) ?_ | refine aApp_sl ?_ | refine aApp_old ?_ | refine J_c ?_ | refine Jc_true ?_ | refine Jc_false ?_ | exact Frz.f _ | (refine Kont.go (by assumption) ?_) | (simp (config := { maxSteps := 3000000 }) (disch := omega) only [go_sem, Nat.reduceEqDiff, ↓reduceIte, Nat.reduceAdd, Nat.reduceLT, Nat.reduceLeDiff, Int.reduceLT, Int.reduceLE, Int.reduceEq, Int.reduceNe, Int.reduceAdd, Int.reduceSub, Int.reduceMul, Int.reduceNeg, Int.reduceToNat])) | refine And.intro (by omega) ?_ | refine And.intro (And.intro (by omega) (by omega)) ?_)
  refine call_f hc rfl ?_
  repeat (first | (with_reducible first | refine W_seq fun K hK => ?_ | refine J_block ?_ | refine J_skip ?_ | refine J_exit ?_ | refine J_ret ?_ | refine J_region ?_  | refine J_drawn mixed (by kernel_rfl) ?_ | refine aApp_sl ?_ | refine aApp_old ?_ | refine J_c ?_ | refine Jc_true ?_ | refine Jc_false ?_ | exact Frz.f _ | (refine Kont.go (by assumption) ?_) | (simp (config := { maxSteps := 3000000 }) (disch := omega) only [go_sem, Nat.reduceEqDiff, ↓reduceIte, Nat.reduceAdd, Nat.reduceLT, Nat.reduceLeDiff, Int.reduceLT, Int.reduceLE, Int.reduceEq, Int.reduceNe, Int.reduceAdd, Int.reduceSub, Int.reduceMul, Int.reduceNeg, Int.reduceToNat])) | refine And.intro (by omega) ?_ | refine And.intro (And.intro (by omega) (by omega)) ?_)
  have z1 : AV.f (FV.v (Value.slice none 0 0)) = .f (lstC C B 0) := rfl
  rw [z1]
  refine W_loop [7, 8, 9, 16, 17, 18, 19, 20, 21, 22, 23, 24, 25, 26, 27, 28, 29, 30, 31] (fun x : Nat => [(7, .f (I (cntT B x))), (8, .f (lstC C B x)), (9, .f (I x))]) (fun x : Nat => []) (fun x : Nat => x ≤ B.length) (fun x : Nat => B.length - x) (0) (Nat.zero_le _) (by refine weak_of ?_ ?_ <;> simp (disch := omega) only [go_sem, Nat.reduceAdd, Nat.reduceLT, Nat.reduceEqDiff] <;> first | rfl | exact ⟨rfl, rfl⟩ | exact Or.inl rfl | exact ⟨Or.inl rfl, Or.inl rfl⟩ | trivial | assumption | omega | (symm; assumption) | ((repeat' apply And.intro) <;> first | rfl | omega | trivial | exact .inr ⟨rfl, rfl⟩ | exact .inr rfl | (right; symm; assumption) | (symm; assumption) | assumption)) ?_
  rintro i hi
  simp only [go_sem, Nat.reduceAdd, Nat.reduceLT, Nat.reduceEqDiff]
  repeat (first | (with_reducible first | refine W_seq fun K hK => ?_ | refine J_block ?_ | refine J_skip ?_ | refine J_exit ?_ | refine J_ret ?_ | refine J_region ?_  | refine J_drawn mixed (by kernel_rfl) ?_ | refine aApp_sl ?_ | refine aApp_old ?_ | refine J_c ?_ | refine Jc_true ?_ | refine Jc_false ?_ | exact Frz.f _ | (refine Kont.go (by assumption) ?_) | (simp (config := { maxSteps := 3000000 }) (disch := omega) only [go_sem, Nat.reduceEqDiff, ↓reduceIte, Nat.reduceAdd, Nat.reduceLT, Nat.reduceLeDiff, Int.reduceLT, Int.reduceLE, Int.reduceEq, Int.reduceNe, Int.reduceAdd, Int.reduceSub, Int.reduceMul, Int.reduceNeg, Int.reduceToNat, List.length_map, hrs])) | refine And.intro (by omega) ?_ | refine And.intro (And.intro (by omega) (by omega)) ?_)
  refine Jc_if (fun hil => ?_) (fun hil => ?_) <;> try simp only [decide_eq_true_eq, decide_eq_false_iff_not, Bool.not_eq_true', Bool.not_eq_false', Bool.not_true, Bool.not_false, Int.ofNat_lt, Int.ofNat_le, Int.natCast_inj, Classical.not_not] at hil
  · have g1 : (B.map Bo)[i]? = some (Bo (B.getD i false)) := by rw [map_get Bo B hil, lget_lt B false hil]
    have g2 : (C.map fun l => FV.fz 1 (Ns l))[i]? = some (.fz 1 (Ns (C.getD i []))) := by rw [map_get (fun l => FV.fz 1 (Ns l)) C (by omega), lget_lt C [] (by omega)]
    have hcl := cntT_le (bs := B) i
    cases hb2 : B.getD i false with
    | true =>
      rw [hb2] at g1
      have e3 : cntT B (i + 1) = cntT B i + 1 := if_pos hb2
      have e4 : lstC C B (i + 1) = .fz 1 (Ns (C.getD i [])) := if_pos hb2
      repeat (first | (with_reducible first | refine W_seq fun K hK => ?_ | refine J_block ?_ | refine J_skip ?_ | refine J_exit ?_ | refine J_ret ?_ | refine J_region ?_  | refine J_drawn mixed (by kernel_rfl) ?_ | refine aApp_sl ?_ | refine aApp_old ?_ | refine J_c ?_ | refine Jc_true ?_ | refine Jc_false ?_ | exact Frz.f _ | (refine Kont.go (by assumption) ?_) | (simp (config := { maxSteps := 3000000 }) (disch := omega) only [go_sem, Nat.reduceEqDiff, ↓reduceIte, Nat.reduceAdd, Nat.reduceLT, Nat.reduceLeDiff, Int.reduceLT, Int.reduceLE, Int.reduceEq, Int.reduceNe, Int.reduceAdd, Int.reduceSub, Int.reduceMul, Int.reduceNeg, Int.reduceToNat, List.length_map, g1, g2, hrs])) | refine And.intro (by omega) ?_ | refine And.intro (And.intro (by omega) (by omega)) ?_)
      rw [← e4]
      refine ⟨i + 1, by omega, by omega, weak_of ?_ ?_⟩ <;> (try simp (disch := omega) only [go_sem, Nat.reduceAdd, Nat.reduceLT, Nat.reduceEqDiff]) <;> (try first | done | omega | rfl | exact ⟨rfl, rfl⟩ | trivial)
    | false =>
      rw [hb2] at g1
      have e3 : cntT B (i + 1) = cntT B i := if_neg (by rw [hb2]; decide)
      have e4 : lstC C B (i + 1) = lstC C B i := if_neg (by rw [hb2]; decide)
      repeat (first | (with_reducible first | refine W_seq fun K hK => ?_ | refine J_block ?_ | refine J_skip ?_ | refine J_exit ?_ | refine J_ret ?_ | refine J_region ?_  | refine J_drawn mixed (by kernel_rfl) ?_ | refine aApp_sl ?_ | refine aApp_old ?_ | refine J_c ?_ | refine Jc_true ?_ | refine Jc_false ?_ | exact Frz.f _ | (refine Kont.go (by assumption) ?_) | (simp (config := { maxSteps := 3000000 }) (disch := omega) only [go_sem, Nat.reduceEqDiff, ↓reduceIte, Nat.reduceAdd, Nat.reduceLT, Nat.reduceLeDiff, Int.reduceLT, Int.reduceLE, Int.reduceEq, Int.reduceNe, Int.reduceAdd, Int.reduceSub, Int.reduceMul, Int.reduceNeg, Int.reduceToNat, List.length_map, g1, g2, hrs])) | refine And.intro (by omega) ?_ | refine And.intro (And.intro (by omega) (by omega)) ?_)
      rw [← e3, ← e4]
      refine ⟨i + 1, by omega, by omega, weak_of ?_ ?_⟩ <;> (try simp (disch := omega) only [go_sem, Nat.reduceAdd, Nat.reduceLT, Nat.reduceEqDiff]) <;> (try first | done | omega | rfl | exact ⟨rfl, rfl⟩ | trivial)
  · have he : i = B.length := by omega
    subst he
    repeat (first | (with_reducible first | refine W_seq fun K hK => ?_ | refine J_block ?_ | refine J_skip ?_ | refine J_exit ?_ | refine J_ret ?_ | refine J_region ?_  | refine J_drawn mixed (by kernel_rfl) ?_ | refine aApp_sl ?_ | refine aApp_old ?_ | refine J_c ?_ | refine Jc_true ?_ | refine Jc_false ?_ | exact Frz.f _ | (refine Kont.go (by assumption) ?_) | (simp (config := { maxSteps := 3000000 }) (disch := omega) only [go_sem, Nat.reduceEqDiff, ↓reduceIte, Nat.reduceAdd, Nat.reduceLT, Nat.reduceLeDiff, Int.reduceLT, Int.reduceLE, Int.reduceEq, Int.reduceNe, Int.reduceAdd, Int.reduceSub, Int.reduceMul, Int.reduceNeg, Int.reduceToNat])) | refine And.intro (by omega) ?_ | refine And.intro (And.intro (by omega) (by omega)) ?_)
    have e5 : decide (((cntT B B.length : Nat) : Int) = 1) = decide (cntT B B.length = 1) := by congr 1; exact propext ⟨fun h => by omega, fun h => by omega⟩
    rw [e5]
    exact ⟨_, rfl, FrzL.cons (.f _) (FrzL.cons (.f _) (FrzL.nil _))⟩
def turnB (n : Nat) (p : Nat → Rat) (A : Mx) : Bool := (List.range n).all fun i => (List.range n).all fun k => decide (p i * A i k = p k * A k i)
theorem turnB_iff {n : Nat} {p : Nat → Rat} {A : Mx} : turnB n p A = true ↔ ∀ i, i < n → ∀ k, k < n → p i * A i k = p k * A k i := by simp [turnB]
set_option maxRecDepth 100000 in
theorem turns_many_w {ys : List FV} (hst : Good Tryd.prog 71 [.fz 1 ys] (.tup [frs [], I 13])) : Good Tryd.prog 60 [.fz 1 ys] (.tup [Bo false, I 13]) := by
  refine good_of Tryd.func60 rfl (by kernel_rfl) fun X hO => ?_; rw [Tryd.ntmps60, Tryd.results60]; simp only [ast0, List.map_cons, List.map_nil, List.length_cons, List.length_nil, Nat.reduceAdd, Nat.reduceSub, List.replicate_succ, List.replicate_zero, List.cons_append, List.nil_append]
  repeat (first | (with_reducible first | refine W_seq fun K hK => ?_ | refine J_block ?_ | refine J_skip ?_ | refine J_exit ?_ | refine J_ret ?_ | refine J_region ?_  | refine J_drawn mixed (by kernel_rfl) ?_ | refine aApp_sl ?_ | refine aApp_old ?_ | refine J_c ?_ | refine Jc_true ?_ | refine Jc_false ?_ | exact Frz.f _ | (refine Kont.go (by assumption) ?_) | (simp (config := { maxSteps := 3000000 }) (disch := omega) only [go_sem, Nat.reduceEqDiff, ↓reduceIte, Nat.reduceAdd, Nat.reduceLT, Nat.reduceLeDiff, Int.reduceLT, Int.reduceLE, Int.reduceEq, Int.reduceNe, Int.reduceAdd, Int.reduceSub, Int.reduceMul, Int.reduceNeg, Int.reduceToNat])) | refine call_f (cmp_w (by assumption) (by assumption) (by omega) (by omega)) rfl ?_ | refine callQ_f (cmp_w (by assumption) (by assumption) (by omega) (by omega)) rfl ?_ | refine call_f (mul_w (by assumption) (by assumption) (by omega) (by omega)) rfl ?_ | refine callQ_f (mul_w (by assumption) (by assumption) (by omega) (by omega)) rfl ?_ | refine And.intro (by omega) ?_ | refine And.intro (And.intro (by omega) (by omega)) ?_)
  refine call_f hst rfl ?_
  repeat (first | (with_reducible first | refine W_seq fun K hK => ?_ | refine J_block ?_ | refine J_skip ?_ | refine J_exit ?_ | refine J_ret ?_ | refine J_region ?_  | refine J_drawn mixed (by kernel_rfl) ?_ | refine aApp_sl ?_ | refine aApp_old ?_ | refine J_c ?_ | refine Jc_true ?_ | refine Jc_false ?_ | exact Frz.f _ | (refine Kont.go (by assumption) ?_) | (simp (config := { maxSteps := 3000000 }) (disch := omega) only [go_sem, Nat.reduceEqDiff, ↓reduceIte, Nat.reduceAdd, Nat.reduceLT, Nat.reduceLeDiff, Int.reduceLT, Int.reduceLE, Int.reduceEq, Int.reduceNe, Int.reduceAdd, Int.reduceSub, Int.reduceMul, Int.reduceNeg, Int.reduceToNat])) | refine call_f (cmp_w (by assumption) (by assumption) (by omega) (by omega)) rfl ?_ | refine callQ_f (cmp_w (by assumption) (by assumption) (by omega) (by omega)) rfl ?_ | refine call_f (mul_w (by assumption) (by assumption) (by omega) (by omega)) rfl ?_ | refine callQ_f (mul_w (by assumption) (by assumption) (by omega) (by omega)) rfl ?_ | refine And.intro (by omega) ?_ | refine And.intro (And.intro (by omega) (by omega)) ?_)
  exact ⟨_, rfl, FrzL.cons (.f _) (FrzL.cons (.f _) (FrzL.nil _))⟩
set_option maxRecDepth 100000 in
set_option maxHeartbeats 8000000 in
theorem turns_w {b s : Nat} {ys : List FV} {m : List (List Rat)} {p : Nat → Rat} (hm : SqM b ys m) (h1 : 1 ≤ b) (hb : b ≤ 1000000) (hs1 : s ≤ 1000000) (hp : ∀ i, i < m.length → Fz (p i) s)
    (hst : Good Tryd.prog 71 [.fz 1 ys] (.tup [frs ((List.range m.length).map p), I 0])) : Good Tryd.prog 60 [.fz 1 ys] (.tup [Bo (turnB m.length p (at2 m)), I 0]) := by
  have hn6 := hm.le
  obtain ⟨n, hn⟩ : ∃ n, n = m.length := ⟨_, rfl⟩
  rw [← hn] at hst hp hn6 ⊢
  have hyl : ys.length = n := hm.fr.len.trans hn.symm
  have hpl : (((List.range n).map p).map fr).length = n := by simp
  have hpg : ∀ j, j < n → (((List.range n).map p).map fr)[j]? = some (fr (p j)) := fun j hj => by simp [hj]
  refine good_of Tryd.func60 rfl (by kernel_rfl) fun X hO => ?_; rw [Tryd.ntmps60, Tryd.results60]; simp only [ast0, List.map_cons, List.map_nil, List.length_cons, List.length_nil, Nat.reduceAdd, Nat.reduceSub, List.replicate_succ, List.replicate_zero, List.cons_append, List.nil_append]
  repeat (first | (with_reducible first | refine W_seq fun K hK => ?_ | refine J_block ?_ | refine J_skip ?_ | refine J_exit ?_ | refine J_ret ?_ | refine J_region ?_  | refine J_drawn mixed (by kernel_rfl) ?_ | refine aApp_sl ?_ | refine aApp_old ?_ | refine J_c ?_ | refine Jc_true ?_ | refine Jc_false ?_ | exact Frz.f _ | (refine Kont.go (by assumption) ?_) | (simp (config := { maxSteps := 3000000 }) (disch := omega) only [go_sem, Nat.reduceEqDiff, ↓reduceIte, Nat.reduceAdd, Nat.reduceLT, Nat.reduceLeDiff, Int.reduceLT, Int.reduceLE, Int.reduceEq, Int.reduceNe, Int.reduceAdd, Int.reduceSub, Int.reduceMul, Int.reduceNeg, Int.reduceToNat])) | refine call_f (cmp_w (by assumption) (by assumption) (by omega) (by omega)) rfl ?_ | refine callQ_f (cmp_w (by assumption) (by assumption) (by omega) (by omega)) rfl ?_ | refine call_f (mul_w (by assumption) (by assumption) (by omega) (by omega)) rfl ?_ | refine callQ_f (mul_w (by assumption) (by assumption) (by omega) (by omega)) rfl ?_ | refine And.intro (by omega) ?_ | refine And.intro (And.intro (by omega) (by omega)) ?_)
  refine call_f hst rfl ?_
  repeat (first | (with_reducible first | refine W_seq fun K hK => ?_ | refine J_block ?_ | refine J_skip ?_ | refine J_exit ?_ | refine J_ret ?_ | refine J_region ?_  | refine J_drawn mixed (by kernel_rfl) ?_ | refine aApp_sl ?_ | refine aApp_old ?_ | refine J_c ?_ | refine Jc_true ?_ | refine Jc_false ?_ | exact Frz.f _ | (refine Kont.go (by assumption) ?_) | (simp (config := { maxSteps := 3000000 }) (disch := omega) only [go_sem, Nat.reduceEqDiff, ↓reduceIte, Nat.reduceAdd, Nat.reduceLT, Nat.reduceLeDiff, Int.reduceLT, Int.reduceLE, Int.reduceEq, Int.reduceNe, Int.reduceAdd, Int.reduceSub, Int.reduceMul, Int.reduceNeg, Int.reduceToNat, hyl])) | refine call_f (cmp_w (by assumption) (by assumption) (by omega) (by omega)) rfl ?_ | refine callQ_f (cmp_w (by assumption) (by assumption) (by omega) (by omega)) rfl ?_ | refine call_f (mul_w (by assumption) (by assumption) (by omega) (by omega)) rfl ?_ | refine callQ_f (mul_w (by assumption) (by assumption) (by omega) (by omega)) rfl ?_ | refine And.intro (by omega) ?_ | refine And.intro (And.intro (by omega) (by omega)) ?_)
  refine W_loop [2, 3, 6, 7, 18, 19, 20, 21, 22, 23, 24, 25, 26, 27, 28, 29, 30, 31, 32, 33, 34, 35, 36, 37, 38, 39, 40, 41, 42, 43, 44, 45, 46, 47, 48, 49, 50, 51, 52, 53] (fun x : Nat => [(18, .f (I x))]) (fun x : Nat => []) (fun x : Nat => x ≤ n ∧ ∀ i, i < x → ∀ k, k < n → p i * at2 m i k = p k * at2 m k i) (fun x : Nat => n - x) (0) (⟨Nat.zero_le _, fun i h => by omega⟩) (by refine weak_of ?_ ?_ <;> simp (disch := omega) only [go_sem, Nat.reduceAdd, Nat.reduceLT, Nat.reduceEqDiff] <;> first | rfl | exact ⟨rfl, rfl⟩ | exact Or.inl rfl | exact ⟨Or.inl rfl, Or.inl rfl⟩ | trivial | assumption | omega | (symm; assumption) | ((repeat' apply And.intro) <;> first | rfl | omega | trivial | exact .inr ⟨rfl, rfl⟩ | exact .inr rfl | (right; symm; assumption) | (symm; assumption) | assumption)) ?_
  rintro i ⟨hi, hcol⟩
  simp only [go_sem, Nat.reduceAdd, Nat.reduceLT, Nat.reduceEqDiff]
  repeat (first | (with_reducible first | refine W_seq fun K hK => ?_ | refine J_block ?_ | refine J_skip ?_ | refine J_exit ?_ | refine J_ret ?_ | refine J_region ?_  | refine J_drawn mixed (by kernel_rfl) ?_ | refine aApp_sl ?_ | refine aApp_old ?_ | refine J_c ?_ | refine Jc_true ?_ | refine Jc_false ?_ | exact Frz.f _ | (refine Kont.go (by assumption) ?_) | (simp (config := { maxSteps := 3000000 }) (disch := omega) only [go_sem, Nat.reduceEqDiff, ↓reduceIte, Nat.reduceAdd, Nat.reduceLT, Nat.reduceLeDiff, Int.reduceLT, Int.reduceLE, Int.reduceEq, Int.reduceNe, Int.reduceAdd, Int.reduceSub, Int.reduceMul, Int.reduceNeg, Int.reduceToNat, hyl])) | refine call_f (cmp_w (by assumption) (by assumption) (by omega) (by omega)) rfl ?_ | refine callQ_f (cmp_w (by assumption) (by assumption) (by omega) (by omega)) rfl ?_ | refine call_f (mul_w (by assumption) (by assumption) (by omega) (by omega)) rfl ?_ | refine callQ_f (mul_w (by assumption) (by assumption) (by omega) (by omega)) rfl ?_ | refine And.intro (by omega) ?_ | refine And.intro (And.intro (by omega) (by omega)) ?_)
  refine Jc_if (fun hil => ?_) (fun hil => ?_) <;> try simp only [decide_eq_true_eq, decide_eq_false_iff_not, Bool.not_eq_true', Bool.not_eq_false', Bool.not_true, Bool.not_false, Int.ofNat_lt, Int.ofNat_le, Int.natCast_inj, Classical.not_not] at hil
  · repeat (first | (with_reducible first | refine W_seq fun K hK => ?_ | refine J_block ?_ | refine J_skip ?_ | refine J_exit ?_ | refine J_ret ?_ | refine J_region ?_  | refine J_drawn mixed (by kernel_rfl) ?_ | refine aApp_sl ?_ | refine aApp_old ?_ | refine J_c ?_ | refine Jc_true ?_ | refine Jc_false ?_ | exact Frz.f _ | (refine Kont.go (by assumption) ?_) | (simp (config := { maxSteps := 3000000 }) (disch := omega) only [go_sem, Nat.reduceEqDiff, ↓reduceIte, Nat.reduceAdd, Nat.reduceLT, Nat.reduceLeDiff, Int.reduceLT, Int.reduceLE, Int.reduceEq, Int.reduceNe, Int.reduceAdd, Int.reduceSub, Int.reduceMul, Int.reduceNeg, Int.reduceToNat, hyl])) | refine call_f (cmp_w (by assumption) (by assumption) (by omega) (by omega)) rfl ?_ | refine callQ_f (cmp_w (by assumption) (by assumption) (by omega) (by omega)) rfl ?_ | refine call_f (mul_w (by assumption) (by assumption) (by omega) (by omega)) rfl ?_ | refine callQ_f (mul_w (by assumption) (by assumption) (by omega) (by omega)) rfl ?_ | refine And.intro (by omega) ?_ | refine And.intro (And.intro (by omega) (by omega)) ?_)
    refine W_loop [2, 3, 7, 23, 24, 25, 26, 27, 28, 29, 30, 31, 32, 33, 34, 35, 36, 37, 38, 39, 40, 41, 42, 43, 44, 45, 46, 47, 48, 49, 50, 51, 52] (fun x : Nat => [(23, .f (I x))]) (fun x : Nat => []) (fun x : Nat => x ≤ n ∧ ∀ k, k < x → p i * at2 m i k = p k * at2 m k i) (fun x : Nat => n - x) (0) (⟨Nat.zero_le _, fun i h => by omega⟩) (by refine weak_of ?_ ?_ <;> simp (disch := omega) only [go_sem, Nat.reduceAdd, Nat.reduceLT, Nat.reduceEqDiff] <;> first | rfl | exact ⟨rfl, rfl⟩ | exact Or.inl rfl | exact ⟨Or.inl rfl, Or.inl rfl⟩ | trivial | assumption | omega | (symm; assumption) | ((repeat' apply And.intro) <;> first | rfl | omega | trivial | exact .inr ⟨rfl, rfl⟩ | exact .inr rfl | (right; symm; assumption) | (symm; assumption) | assumption)) ?_
    rintro k ⟨hk, hrow⟩
    simp only [go_sem, Nat.reduceAdd, Nat.reduceLT, Nat.reduceEqDiff]
    repeat (first | (with_reducible first | refine W_seq fun K hK => ?_ | refine J_block ?_ | refine J_skip ?_ | refine J_exit ?_ | refine J_ret ?_ | refine J_region ?_  | refine J_drawn mixed (by kernel_rfl) ?_ | refine aApp_sl ?_ | refine aApp_old ?_ | refine J_c ?_ | refine Jc_true ?_ | refine Jc_false ?_ | exact Frz.f _ | (refine Kont.go (by assumption) ?_) | (simp (config := { maxSteps := 3000000 }) (disch := omega) only [go_sem, Nat.reduceEqDiff, ↓reduceIte, Nat.reduceAdd, Nat.reduceLT, Nat.reduceLeDiff, Int.reduceLT, Int.reduceLE, Int.reduceEq, Int.reduceNe, Int.reduceAdd, Int.reduceSub, Int.reduceMul, Int.reduceNeg, Int.reduceToNat, hyl])) | refine call_f (cmp_w (by assumption) (by assumption) (by omega) (by omega)) rfl ?_ | refine callQ_f (cmp_w (by assumption) (by assumption) (by omega) (by omega)) rfl ?_ | refine call_f (mul_w (by assumption) (by assumption) (by omega) (by omega)) rfl ?_ | refine callQ_f (mul_w (by assumption) (by assumption) (by omega) (by omega)) rfl ?_ | refine And.intro (by omega) ?_ | refine And.intro (And.intro (by omega) (by omega)) ?_)
    refine Jc_if (fun hkl => ?_) (fun hkl => ?_) <;> try simp only [decide_eq_true_eq, decide_eq_false_iff_not, Bool.not_eq_true', Bool.not_eq_false', Bool.not_true, Bool.not_false, Int.ofNat_lt, Int.ofNat_le, Int.natCast_inj, Classical.not_not] at hkl
    · obtain ⟨xs, gg, nn, dd, z1, z2, z3⟩ := hm.at2 (i := i) (j := k) (by omega) (by omega)
      obtain ⟨xs', gg', nn', dd', z1', z2', z3'⟩ := hm.at2 (i := k) (j := i) (by omega) (by omega)
      have f1 := IsFr.c (hp i hil)
      have f2 := IsFr.c (hp k hkl)
      have f3 := IsFr.c ((hp i hil).mul (hm.f2 h1 (i := i) (j := k) (by omega) (by omega)))
      have f4 := IsFr.c ((hp k hkl).mul (hm.f2 h1 (i := k) (j := i) (by omega) (by omega)))
      have g1 := hpg i hil
      have g2 := hpg k hkl
      have hz := cmpR_zero (p i * at2 m i k) (p k * at2 m k i)
      by_cases e : p i * at2 m i k = p k * at2 m k i
      · have hz1 : (cmpR (p i * at2 m i k) (p k * at2 m k i) = 0) = True := eq_true (hz.2 e)
        repeat (first | (with_reducible first | refine W_seq fun K hK => ?_ | refine J_block ?_ | refine J_skip ?_ | refine J_exit ?_ | refine J_ret ?_ | refine J_region ?_  | refine J_drawn mixed (by kernel_rfl) ?_ | refine aApp_sl ?_ | refine aApp_old ?_ | refine J_c ?_ | refine Jc_true ?_ | refine Jc_false ?_ | exact Frz.f _ | (refine Kont.go (by assumption) ?_) | (simp (config := { maxSteps := 3000000 }) (disch := omega) only [go_sem, Nat.reduceEqDiff, ↓reduceIte, Nat.reduceAdd, Nat.reduceLT, Nat.reduceLeDiff, Int.reduceLT, Int.reduceLE, Int.reduceEq, Int.reduceNe, Int.reduceAdd, Int.reduceSub, Int.reduceMul, Int.reduceNeg, Int.reduceToNat, hyl, hpl, g1, g2, z1, z2, z1', z2', hz1, decide_true, Nat.reduceMul, Nat.le_refl, true_and, and_true, and_self])) | refine call_f (cmp_w (by assumption) (by assumption) (by omega) (by omega)) rfl ?_ | refine callQ_f (cmp_w (by assumption) (by assumption) (by omega) (by omega)) rfl ?_ | refine call_f (mul_w (by assumption) (by assumption) (by omega) (by omega)) rfl ?_ | refine callQ_f (mul_w (by assumption) (by assumption) (by omega) (by omega)) rfl ?_ | refine And.intro (by omega) ?_ | refine And.intro (And.intro (by omega) (by omega)) ?_)
        refine ⟨k + 1, ⟨by omega, upto_next (p := fun k => p i * at2 m i k = p k * at2 m k i) hrow e⟩, by omega, weak_of ?_ ?_⟩ <;> (try simp (disch := omega) only [go_sem, Nat.reduceAdd, Nat.reduceLT, Nat.reduceEqDiff]) <;> (try first | done | omega | rfl | exact ⟨rfl, rfl⟩ | trivial)
      · have hz1 : (cmpR (p i * at2 m i k) (p k * at2 m k i) = 0) = False := eq_false fun h => e (hz.1 h)
        have ef : turnB n p (at2 m) = false := by
          cases hb : turnB n p (at2 m) with
          | false => rfl
          | true => exact absurd (turnB_iff.1 hb i hil k hkl) e
        repeat (first | (with_reducible first | refine W_seq fun K hK => ?_ | refine J_block ?_ | refine J_skip ?_ | refine J_exit ?_ | refine J_ret ?_ | refine J_region ?_  | refine J_drawn mixed (by kernel_rfl) ?_ | refine aApp_sl ?_ | refine aApp_old ?_ | refine J_c ?_ | refine Jc_true ?_ | refine Jc_false ?_ | exact Frz.f _ | (refine Kont.go (by assumption) ?_) | (simp (config := { maxSteps := 3000000 }) (disch := omega) only [go_sem, Nat.reduceEqDiff, ↓reduceIte, Nat.reduceAdd, Nat.reduceLT, Nat.reduceLeDiff, Int.reduceLT, Int.reduceLE, Int.reduceEq, Int.reduceNe, Int.reduceAdd, Int.reduceSub, Int.reduceMul, Int.reduceNeg, Int.reduceToNat, hyl, hpl, g1, g2, z1, z2, z1', z2', hz1, decide_false, Nat.reduceMul, Nat.le_refl, true_and, and_true, and_self])) | refine call_f (cmp_w (by assumption) (by assumption) (by omega) (by omega)) rfl ?_ | refine callQ_f (cmp_w (by assumption) (by assumption) (by omega) (by omega)) rfl ?_ | refine call_f (mul_w (by assumption) (by assumption) (by omega) (by omega)) rfl ?_ | refine callQ_f (mul_w (by assumption) (by assumption) (by omega) (by omega)) rfl ?_ | refine And.intro (by omega) ?_ | refine And.intro (And.intro (by omega) (by omega)) ?_)
        rw [ef]
        exact ⟨_, rfl, FrzL.cons (.f _) (FrzL.cons (.f _) (FrzL.nil _))⟩
    · have he : k = n := by omega
      subst he
      repeat (first | (with_reducible first | refine W_seq fun K hK => ?_ | refine J_block ?_ | refine J_skip ?_ | refine J_exit ?_ | refine J_ret ?_ | refine J_region ?_  | refine J_drawn mixed (by kernel_rfl) ?_ | refine aApp_sl ?_ | refine aApp_old ?_ | refine J_c ?_ | refine Jc_true ?_ | refine Jc_false ?_ | exact Frz.f _ | (refine Kont.go (by assumption) ?_) | (simp (config := { maxSteps := 3000000 }) (disch := omega) only [go_sem, Nat.reduceEqDiff, ↓reduceIte, Nat.reduceAdd, Nat.reduceLT, Nat.reduceLeDiff, Int.reduceLT, Int.reduceLE, Int.reduceEq, Int.reduceNe, Int.reduceAdd, Int.reduceSub, Int.reduceMul, Int.reduceNeg, Int.reduceToNat])) | refine call_f (cmp_w (by assumption) (by assumption) (by omega) (by omega)) rfl ?_ | refine callQ_f (cmp_w (by assumption) (by assumption) (by omega) (by omega)) rfl ?_ | refine call_f (mul_w (by assumption) (by assumption) (by omega) (by omega)) rfl ?_ | refine callQ_f (mul_w (by assumption) (by assumption) (by omega) (by omega)) rfl ?_ | refine And.intro (by omega) ?_ | refine And.intro (And.intro (by omega) (by omega)) ?_)
      refine ⟨i + 1, ⟨by omega, upto_next (p := fun i => ∀ q, q < k → p i * at2 m i q = p q * at2 m q i) hcol hrow⟩, by omega, weak_of ?_ ?_⟩ <;> (try simp (disch := omega) only [go_sem, Nat.reduceAdd, Nat.reduceLT, Nat.reduceEqDiff]) <;> (try first | done | omega | rfl | exact ⟨rfl, rfl⟩ | trivial)
  · have he : i = n := by omega
    subst he
    have ef : turnB i p (at2 m) = true := turnB_iff.2 hcol
    repeat (first | (with_reducible first | refine W_seq fun K hK => ?_ | refine J_block ?_ | refine J_skip ?_ | refine J_exit ?_ | refine J_ret ?_ | refine J_region ?_  | refine J_drawn mixed (by kernel_rfl) ?_ | refine aApp_sl ?_ | refine aApp_old ?_ | refine J_c ?_ | refine Jc_true ?_ | refine Jc_false ?_ | exact Frz.f _ | (refine Kont.go (by assumption) ?_) | (simp (config := { maxSteps := 3000000 }) (disch := omega) only [go_sem, Nat.reduceEqDiff, ↓reduceIte, Nat.reduceAdd, Nat.reduceLT, Nat.reduceLeDiff, Int.reduceLT, Int.reduceLE, Int.reduceEq, Int.reduceNe, Int.reduceAdd, Int.reduceSub, Int.reduceMul, Int.reduceNeg, Int.reduceToNat])) | refine call_f (cmp_w (by assumption) (by assumption) (by omega) (by omega)) rfl ?_ | refine callQ_f (cmp_w (by assumption) (by assumption) (by omega) (by omega)) rfl ?_ | refine call_f (mul_w (by assumption) (by assumption) (by omega) (by omega)) rfl ?_ | refine callQ_f (mul_w (by assumption) (by assumption) (by omega) (by omega)) rfl ?_ | refine And.intro (by omega) ?_ | refine And.intro (And.intro (by omega) (by omega)) ?_)
    rw [ef]
    exact ⟨_, rfl, FrzL.cons (.f _) (FrzL.cons (.f _) (FrzL.nil _))⟩
def evR (n : Nat) (A : Mx) (i : Nat) : Nat → Rat := fun k => A i k + A k i
def evTo (n : Nat) (A : Mx) (i x : Nat) : List FV := (List.range x).map fun k => fr (evR n A i k)
def evD (n : Nat) (A : Mx) (i x : Nat) : List FV := (List.range n).map fun k => fr (if k < x then evM n A i k else evR n A i k)
def evL (n : Nat) (A : Mx) (i : Nat) : List Rat := (List.range n).map (evM n A i)
def evLs (n : Nat) (A : Mx) (x : Nat) : List FV := (List.range x).map fun i => frs (evL n A i)
section
variable {n i x : Nat} {A : Mx}
theorem evTo_zero : evTo n A i 0 = [] := rfl
theorem evLs_zero : evLs n A 0 = [] := rfl
theorem evTo_len : (evTo n A i x).length = x := by simp [evTo]
theorem evTo_next : evTo n A i x ++ [fr (evR n A i x)] = evTo n A i (x + 1) := by simp [evTo, List.range_succ]
theorem evLs_len : (evLs n A x).length = x := by simp [evLs]
theorem evLs_next : evLs n A x ++ [frs (evL n A x)] = evLs n A (x + 1) := by simp [evLs, List.range_succ]
theorem evD_len : (evD n A i x).length = n := by simp [evD]
theorem evD_zero : evTo n A i n = evD n A i 0 := by
  refine List.map_congr_left fun k _ => ?_
  rw [if_neg (by omega)]
theorem evD_get (h : x < n) : ((evD n A i x).map AV.f)[x]? = some (.f (fr (evR n A i x))) := by simp [evD, h]
theorem evD_set (h : x < n) : ((evD n A i x).map AV.f).set x (.f (fr (evM n A i x))) = (evD n A i (x + 1)).map .f := by
  unfold evD
  rw [← List.map_set, range_set h]
  congr 1
  refine List.map_congr_left fun k _ => ?_
  by_cases e : k = x
  · rw [if_pos e, if_pos (by omega), e]
  · rw [if_neg e]
    by_cases hk : k < x
    · rw [if_pos hk, if_pos (by omega)]
    · rw [if_neg hk, if_neg (by omega)]
theorem evD_all : evD n A i n = (evL n A i).map fr := by
  unfold evD evL
  rw [List.map_map]
  refine List.map_congr_left fun k hk => ?_
  have := List.mem_range.1 hk
  rw [if_pos this]; rfl
theorem evL_len : (evL n A i).length = n := by simp [evL]
theorem evL_sum : sumR ((List.range n).map (evR n A i)) = evS n A i := by
  unfold sumR evS
  rw [sumTo_F, List.length_map, List.length_range]
  exact sumF_congr fun k hk => by simp [List.getD, hk, evR]
end
attribute [go_sem] evTo_zero evLs_zero
set_option maxRecDepth 100000 in
set_option maxHeartbeats 8000000 in
theorem evened_w {ys : List FV} {m : List (List Rat)} (hm : SqM 8 ys m) (hs : Sto m.length (at2 m)) :
    Good Tryd.prog 59 [.fz 1 ys] (.fz 1 (evLs m.length (at2 m) m.length)) := by
  have hn6 := hm.le
  obtain ⟨n, hn⟩ : ∃ n, n = m.length := ⟨_, rfl⟩
  rw [← hn] at hs hn6 ⊢
  have hyl : ys.length = n := hm.fr.len.trans hn.symm
  have hA : ∀ i k, i < n → k < n → Fz (at2 m i k) 8 := fun i k hi hk => hm.f2 (by decide) (by omega) (by omega)
  have hR : ∀ i k, i < n → k < n → Fz (evR n (at2 m) i k) 17 := fun i k hi hk => (hA i k hi hk).add (hA k i hk hi)
  have hSz : ∀ i, i < n → Fz (evS n (at2 m) i) 200 := fun i hi => by
    have := sumF_fz (n := n) (f := evR n (at2 m) i) (s := 17) fun k hk => hR i k hi hk
    have hmu := Nat.mul_le_mul_right (17 + 1) hn6
    exact Fz.up this (by omega)
  have hS0 : ∀ i, i < n → evS n (at2 m) i ≠ 0 := fun i hi => Rat.ne_of_gt (evS_pos hs hi)
  refine good_of Tryd.func59 rfl (by kernel_rfl) fun X hO => ?_; rw [Tryd.ntmps59, Tryd.results59]; simp only [ast0, List.map_cons, List.map_nil, List.length_cons, List.length_nil, Nat.reduceAdd, Nat.reduceSub, List.replicate_succ, List.replicate_zero, List.cons_append, List.nil_append]
  repeat (first | (with_reducible first | refine W_seq fun K hK => ?_ | refine J_block ?_ | refine J_skip ?_ | refine J_exit ?_ | refine J_ret ?_ | refine J_region ?_ | refine J_orders (id := 9) [17] (.one 0 (.one 1 (.one 2 (.one 3 (.one 4 (.one 5 (.one 6 (.one 7 (.one 8 (.one 9 (.one 10 (.one 11 (.one 12 (.one 13 (.one 14 (.one 15 (.one 16 (.one 17 (.one 18 .leaf))))))))))))))))))) mixed (by kernel_rfl) ?_  | refine J_drawn mixed (by kernel_rfl) ?_ | refine aApp_sl ?_ | refine aApp_old ?_ | refine J_c ?_ | refine Jc_true ?_ | refine Jc_false ?_ | exact Frz.f _ | (refine Kont.go (by assumption) ?_) | (simp (config := { maxSteps := 3000000 }) (disch := omega) only [go_sem, Nat.reduceEqDiff, ↓reduceIte, Nat.reduceAdd, Nat.reduceLT, Nat.reduceLeDiff, Int.reduceLT, Int.reduceLE, Int.reduceEq, Int.reduceNe, Int.reduceAdd, Int.reduceSub, Int.reduceMul, Int.reduceNeg, Int.reduceToNat])) | refine call_f (radd_w (by assumption) (by assumption) (by omega) (by omega)) rfl ?_ | refine callQ_f (radd_w (by assumption) (by assumption) (by omega) (by omega)) rfl ?_ | refine call_f (rdiv_w (by assumption) (by assumption) (by omega) (by omega) (by assumption)) rfl ?_ | refine callQ_f (rdiv_w (by assumption) (by assumption) (by omega) (by omega) (by assumption)) rfl ?_ | refine And.intro (by omega) ?_ | refine And.intro (And.intro (by omega) (by omega)) ?_)
  refine J_reserve ?_
  refine W_loop [3, 4, 5, 6, 7, 8, 9, 10, 11, 12, 13, 14, 15, 16, 17, 18, 19, 20, 21, 22, 23, 24, 25, 26, 27, 28, 29, 30, 31, 32, 33, 34, 35, 36, 37, 38, 39, 40, 41, 42, 43, 44, 45, 46, 47, 48, 49, 50, 51, 52, 53, 54, 55, 56, 57, 58, 59, 60, 61, 62] (fun x : Nat => [(3, sl 0 1 (evLs n (at2 m) x)), (4, .f (I x))]) (fun x : Nat => [ob 49 1 (evLs n (at2 m) x)]) (fun x : Nat => x ≤ n) (fun x : Nat => n - x) (0) (Nat.zero_le _) (by refine weak_of ?_ ?_ <;> simp (disch := omega) only [go_sem, Nat.reduceAdd, Nat.reduceLT, Nat.reduceEqDiff] <;> first | rfl | exact ⟨rfl, rfl⟩ | exact Or.inl rfl | exact ⟨Or.inl rfl, Or.inl rfl⟩ | trivial | assumption | omega | (symm; assumption) | ((repeat' apply And.intro) <;> first | rfl | omega | trivial | exact .inr ⟨rfl, rfl⟩ | exact .inr rfl | (right; symm; assumption) | (symm; assumption) | assumption)) ?_
  rintro i hi
  simp only [go_sem, Nat.reduceAdd, Nat.reduceLT, Nat.reduceEqDiff]
  repeat (first | (with_reducible first | refine W_seq fun K hK => ?_ | refine J_block ?_ | refine J_skip ?_ | refine J_exit ?_ | refine J_ret ?_ | refine J_region ?_ | refine J_orders (id := 9) [17] (.one 0 (.one 1 (.one 2 (.one 3 (.one 4 (.one 5 (.one 6 (.one 7 (.one 8 (.one 9 (.one 10 (.one 11 (.one 12 (.one 13 (.one 14 (.one 15 (.one 16 (.one 17 (.one 18 .leaf))))))))))))))))))) mixed (by kernel_rfl) ?_  | refine J_drawn mixed (by kernel_rfl) ?_ | refine aApp_sl ?_ | refine aApp_old ?_ | refine J_c ?_ | refine Jc_true ?_ | refine Jc_false ?_ | exact Frz.f _ | (refine Kont.go (by assumption) ?_) | (simp (config := { maxSteps := 3000000 }) (disch := omega) only [go_sem, Nat.reduceEqDiff, ↓reduceIte, Nat.reduceAdd, Nat.reduceLT, Nat.reduceLeDiff, Int.reduceLT, Int.reduceLE, Int.reduceEq, Int.reduceNe, Int.reduceAdd, Int.reduceSub, Int.reduceMul, Int.reduceNeg, Int.reduceToNat, hyl])) | refine call_f (radd_w (by assumption) (by assumption) (by omega) (by omega)) rfl ?_ | refine callQ_f (radd_w (by assumption) (by assumption) (by omega) (by omega)) rfl ?_ | refine call_f (rdiv_w (by assumption) (by assumption) (by omega) (by omega) (by assumption)) rfl ?_ | refine callQ_f (rdiv_w (by assumption) (by assumption) (by omega) (by omega) (by assumption)) rfl ?_ | refine And.intro (by omega) ?_ | refine And.intro (And.intro (by omega) (by omega)) ?_)
  refine Jc_if (fun hil => ?_) (fun hil => ?_) <;> try simp only [decide_eq_true_eq, decide_eq_false_iff_not, Bool.not_eq_true', Bool.not_eq_false', Bool.not_true, Bool.not_false, Int.ofNat_lt, Int.ofNat_le, Int.natCast_inj, Classical.not_not] at hil
  · repeat (first | (with_reducible first | refine W_seq fun K hK => ?_ | refine J_block ?_ | refine J_skip ?_ | refine J_exit ?_ | refine J_ret ?_ | refine J_region ?_ | refine J_orders (id := 9) [17] (.one 0 (.one 1 (.one 2 (.one 3 (.one 4 (.one 5 (.one 6 (.one 7 (.one 8 (.one 9 (.one 10 (.one 11 (.one 12 (.one 13 (.one 14 (.one 15 (.one 16 (.one 17 (.one 18 .leaf))))))))))))))))))) mixed (by kernel_rfl) ?_  | refine J_drawn mixed (by kernel_rfl) ?_ | refine aApp_sl ?_ | refine aApp_old ?_ | refine J_c ?_ | refine Jc_true ?_ | refine Jc_false ?_ | exact Frz.f _ | (refine Kont.go (by assumption) ?_) | (simp (config := { maxSteps := 3000000 }) (disch := omega) only [go_sem, Nat.reduceEqDiff, ↓reduceIte, Nat.reduceAdd, Nat.reduceLT, Nat.reduceLeDiff, Int.reduceLT, Int.reduceLE, Int.reduceEq, Int.reduceNe, Int.reduceAdd, Int.reduceSub, Int.reduceMul, Int.reduceNeg, Int.reduceToNat])) | refine call_f (radd_w (by assumption) (by assumption) (by omega) (by omega)) rfl ?_ | refine callQ_f (radd_w (by assumption) (by assumption) (by omega) (by omega)) rfl ?_ | refine call_f (rdiv_w (by assumption) (by assumption) (by omega) (by omega) (by assumption)) rfl ?_ | refine callQ_f (rdiv_w (by assumption) (by assumption) (by omega) (by omega) (by assumption)) rfl ?_ | refine And.intro (by omega) ?_ | refine And.intro (And.intro (by omega) (by omega)) ?_)
    refine J_reserve ?_
    refine W_loop [5, 6, 15, 16, 17, 18, 19, 20, 21, 22, 23, 24, 25, 26, 27, 28, 29, 30, 31, 32, 33, 34, 35, 36, 37, 38] (fun x : Nat => [(5, sl 1 3 (evTo n (at2 m) i x)), (6, .f (I x))]) (fun x : Nat => [ob 49 1 (evLs n (at2 m) i), ob 55 3 (evTo n (at2 m) i x)]) (fun x : Nat => x ≤ n) (fun x : Nat => n - x) (0) (Nat.zero_le _) (by refine weak_of ?_ ?_ <;> simp (disch := omega) only [go_sem, Nat.reduceAdd, Nat.reduceLT, Nat.reduceEqDiff] <;> first | rfl | exact ⟨rfl, rfl⟩ | exact Or.inl rfl | exact ⟨Or.inl rfl, Or.inl rfl⟩ | trivial | assumption | omega | (symm; assumption) | ((repeat' apply And.intro) <;> first | rfl | omega | trivial | exact .inr ⟨rfl, rfl⟩ | exact .inr rfl | (right; symm; assumption) | (symm; assumption) | assumption)) ?_
    rintro k hk
    simp only [go_sem, Nat.reduceAdd, Nat.reduceLT, Nat.reduceEqDiff]
    repeat (first | (with_reducible first | refine W_seq fun K hK => ?_ | refine J_block ?_ | refine J_skip ?_ | refine J_exit ?_ | refine J_ret ?_ | refine J_region ?_ | refine J_orders (id := 9) [17] (.one 0 (.one 1 (.one 2 (.one 3 (.one 4 (.one 5 (.one 6 (.one 7 (.one 8 (.one 9 (.one 10 (.one 11 (.one 12 (.one 13 (.one 14 (.one 15 (.one 16 (.one 17 (.one 18 .leaf))))))))))))))))))) mixed (by kernel_rfl) ?_  | refine J_drawn mixed (by kernel_rfl) ?_ | refine aApp_sl ?_ | refine aApp_old ?_ | refine J_c ?_ | refine Jc_true ?_ | refine Jc_false ?_ | exact Frz.f _ | (refine Kont.go (by assumption) ?_) | (simp (config := { maxSteps := 3000000 }) (disch := omega) only [go_sem, Nat.reduceEqDiff, ↓reduceIte, Nat.reduceAdd, Nat.reduceLT, Nat.reduceLeDiff, Int.reduceLT, Int.reduceLE, Int.reduceEq, Int.reduceNe, Int.reduceAdd, Int.reduceSub, Int.reduceMul, Int.reduceNeg, Int.reduceToNat, hyl])) | refine call_f (radd_w (by assumption) (by assumption) (by omega) (by omega)) rfl ?_ | refine callQ_f (radd_w (by assumption) (by assumption) (by omega) (by omega)) rfl ?_ | refine call_f (rdiv_w (by assumption) (by assumption) (by omega) (by omega) (by assumption)) rfl ?_ | refine callQ_f (rdiv_w (by assumption) (by assumption) (by omega) (by omega) (by assumption)) rfl ?_ | refine And.intro (by omega) ?_ | refine And.intro (And.intro (by omega) (by omega)) ?_)
    refine Jc_if (fun hkl => ?_) (fun hkl => ?_) <;> try simp only [decide_eq_true_eq, decide_eq_false_iff_not, Bool.not_eq_true', Bool.not_eq_false', Bool.not_true, Bool.not_false, Int.ofNat_lt, Int.ofNat_le, Int.natCast_inj, Classical.not_not] at hkl
    · obtain ⟨xs, gg, nn, dd, z1, z2, z3⟩ := hm.at2 (i := i) (j := k) (by omega) (by omega)
      obtain ⟨xs', gg', nn', dd', z1', z2', z3'⟩ := hm.at2 (i := k) (j := i) (by omega) (by omega)
      have hnx := evTo_next (n := n) (A := at2 m) (i := i) (x := k)
      have hlt := evTo_len (n := n) (A := at2 m) (i := i) (x := k)
      have hne1 : evTo n (at2 m) i (k + 1) ≠ [] := fun e => by have := congrArg List.length e; rw [evTo_len] at this; simp at this
      have hsl1 : sl 3 3 (evTo n (at2 m) i (k + 1)) = .own 3 3 0 (k + 1) := by rw [sl_pos hne1, evTo_len]
      have hob1 : ob 55 3 (evTo n (at2 m) i (k + 1)) = some ⟨55, 3, (evTo n (at2 m) i (k + 1)).map .f⟩ := ob_pos hne1
      have hv : fr (at2 m i k + at2 m k i) = fr (evR n (at2 m) i k) := rfl
      by_cases hk0 : k = 0
      · subst hk0
        have hq1 : (evTo n (at2 m) i (0 + 1)).map AV.f = [AV.f (fr (evR n (at2 m) i 0))] := rfl
        repeat (first | (with_reducible first | refine W_seq fun K hK => ?_ | refine J_block ?_ | refine J_skip ?_ | refine J_exit ?_ | refine J_ret ?_ | refine J_region ?_ | refine J_orders (id := 9) [17] (.one 0 (.one 1 (.one 2 (.one 3 (.one 4 (.one 5 (.one 6 (.one 7 (.one 8 (.one 9 (.one 10 (.one 11 (.one 12 (.one 13 (.one 14 (.one 15 (.one 16 (.one 17 (.one 18 .leaf))))))))))))))))))) mixed (by kernel_rfl) ?_  | refine J_drawn mixed (by kernel_rfl) ?_ | refine aApp_sl ?_ | refine aApp_old ?_ | refine J_c ?_ | refine Jc_true ?_ | refine Jc_false ?_ | exact Frz.f _ | (refine Kont.go (by assumption) ?_) | (simp (config := { maxSteps := 3000000 }) (disch := omega) only [go_sem, Nat.reduceEqDiff, ↓reduceIte, Nat.reduceAdd, Nat.reduceLT, Nat.reduceLeDiff, Int.reduceLT, Int.reduceLE, Int.reduceEq, Int.reduceNe, Int.reduceAdd, Int.reduceSub, Int.reduceMul, Int.reduceNeg, Int.reduceToNat, hyl, z1, z2, z1', z2', evTo_zero, sl_nil, ob_nil, hv, Nat.reduceMul, Nat.le_refl, true_and, and_true, and_self])) | refine call_f (radd_w (by assumption) (by assumption) (by omega) (by omega)) rfl ?_ | refine callQ_f (radd_w (by assumption) (by assumption) (by omega) (by omega)) rfl ?_ | refine call_f (rdiv_w (by assumption) (by assumption) (by omega) (by omega) (by assumption)) rfl ?_ | refine callQ_f (rdiv_w (by assumption) (by assumption) (by omega) (by omega) (by assumption)) rfl ?_ | refine And.intro (by omega) ?_ | refine And.intro (And.intro (by omega) (by omega)) ?_)
        refine ⟨0 + 1, by omega, by omega, weak_ren [0, 3] ⟨by decide, by first | decide | (simp; done)⟩ ?_ ?_⟩ <;> (try simp (disch := omega) only [go_sem, Nat.reduceAdd, Nat.reduceLT, Nat.reduceEqDiff, hsl1, hob1, hq1]) <;> (try first | done | omega | rfl | exact ⟨rfl, rfl⟩ | trivial)
      · have hne : evTo n (at2 m) i k ≠ [] := fun e => by rw [e] at hlt; simp at hlt; omega
        have hsl : sl 1 3 (evTo n (at2 m) i k) = .own 1 3 0 k := by rw [sl_pos hne, hlt]
        have hob : ob 55 3 (evTo n (at2 m) i k) = some ⟨55, 3, (evTo n (at2 m) i k).map .f⟩ := ob_pos hne
        have htk : ((evTo n (at2 m) i k).map AV.f).take k ++ [AV.f (fr (evR n (at2 m) i k))] = (evTo n (at2 m) i (k + 1)).map AV.f := by rw [List.take_of_length_le (by rw [List.length_map, hlt]; omega), ← hnx, List.map_append]; rfl
        repeat (first | (with_reducible first | refine W_seq fun K hK => ?_ | refine J_block ?_ | refine J_skip ?_ | refine J_exit ?_ | refine J_ret ?_ | refine J_region ?_ | refine J_orders (id := 9) [17] (.one 0 (.one 1 (.one 2 (.one 3 (.one 4 (.one 5 (.one 6 (.one 7 (.one 8 (.one 9 (.one 10 (.one 11 (.one 12 (.one 13 (.one 14 (.one 15 (.one 16 (.one 17 (.one 18 .leaf))))))))))))))))))) mixed (by kernel_rfl) ?_  | refine J_drawn mixed (by kernel_rfl) ?_ | refine aApp_sl ?_ | refine aApp_old ?_ | refine J_c ?_ | refine Jc_true ?_ | refine Jc_false ?_ | exact Frz.f _ | (refine Kont.go (by assumption) ?_) | (simp (config := { maxSteps := 3000000 }) (disch := omega) only [go_sem, Nat.reduceEqDiff, ↓reduceIte, Nat.reduceAdd, Nat.reduceLT, Nat.reduceLeDiff, Int.reduceLT, Int.reduceLE, Int.reduceEq, Int.reduceNe, Int.reduceAdd, Int.reduceSub, Int.reduceMul, Int.reduceNeg, Int.reduceToNat, hyl, z1, z2, z1', z2', hsl, hob, hlt, hv, htk, Nat.reduceMul, Nat.le_refl, true_and, and_true, and_self])) | refine call_f (radd_w (by assumption) (by assumption) (by omega) (by omega)) rfl ?_ | refine callQ_f (radd_w (by assumption) (by assumption) (by omega) (by omega)) rfl ?_ | refine call_f (rdiv_w (by assumption) (by assumption) (by omega) (by omega) (by assumption)) rfl ?_ | refine callQ_f (rdiv_w (by assumption) (by assumption) (by omega) (by omega) (by assumption)) rfl ?_ | refine And.intro (by omega) ?_ | refine And.intro (And.intro (by omega) (by omega)) ?_)
        refine ⟨k + 1, by omega, by omega, weak_ren [0, 3] ⟨by decide, by first | decide | (simp; done)⟩ ?_ ?_⟩ <;> (try simp (disch := omega) only [go_sem, Nat.reduceAdd, Nat.reduceLT, Nat.reduceEqDiff, hsl1, hob1]) <;> (try first | done | omega | rfl | exact ⟨rfl, rfl⟩ | trivial)
    · have he : k = n := by omega
      have hlt : (evD n (at2 m) i 0).length = n := evD_len
      have hne : evTo n (at2 m) i n ≠ [] := fun e => by rw [evD_zero] at e; rw [e] at hlt; simp at hlt; omega
      have hsl : sl 1 3 (evTo n (at2 m) i k) = .own 1 3 0 n := by rw [he, sl_pos hne, evTo_len]
      have hob : ob 55 3 (evTo n (at2 m) i k) = some ⟨55, 3, (evD n (at2 m) i 0).map .f⟩ := by rw [he, ob_pos hne, evD_zero]
      rw [hsl, hob]
      have hsum := rsum_w (Frs.c (k := 17) (l := (List.range n).map (evR n (at2 m) i)) fun z hz => by
        obtain ⟨q, hq, rfl⟩ := List.mem_map.1 hz
        exact hR i q hil (List.mem_range.1 hq)) (by omega) (by simp; omega) (by omega)
      rw [evL_sum] at hsum
      have hrw : FV.fz 3 (((List.range n).map (evR n (at2 m) i)).map fr) = .fz 3 (evD n (at2 m) i 0) := by
        rw [← evD_zero]; unfold evTo; rw [List.map_map]; rfl
      rw [hrw] at hsum
      repeat (first | (with_reducible first | refine W_seq fun K hK => ?_ | refine J_block ?_ | refine J_skip ?_ | refine J_exit ?_ | refine J_ret ?_ | refine J_region ?_ | refine J_orders (id := 9) [17] (.one 0 (.one 1 (.one 2 (.one 3 (.one 4 (.one 5 (.one 6 (.one 7 (.one 8 (.one 9 (.one 10 (.one 11 (.one 12 (.one 13 (.one 14 (.one 15 (.one 16 (.one 17 (.one 18 .leaf))))))))))))))))))) mixed (by kernel_rfl) ?_  | refine J_drawn mixed (by kernel_rfl) ?_ | refine aApp_sl ?_ | refine aApp_old ?_ | refine J_c ?_ | refine Jc_true ?_ | refine Jc_false ?_ | exact Frz.f _ | (refine Kont.go (by assumption) ?_) | (simp (config := { maxSteps := 3000000 }) (disch := omega) only [go_sem, Nat.reduceEqDiff, ↓reduceIte, Nat.reduceAdd, Nat.reduceLT, Nat.reduceLeDiff, Int.reduceLT, Int.reduceLE, Int.reduceEq, Int.reduceNe, Int.reduceAdd, Int.reduceSub, Int.reduceMul, Int.reduceNeg, Int.reduceToNat])) | refine call_f (radd_w (by assumption) (by assumption) (by omega) (by omega)) rfl ?_ | refine callQ_f (radd_w (by assumption) (by assumption) (by omega) (by omega)) rfl ?_ | refine call_f (rdiv_w (by assumption) (by assumption) (by omega) (by omega) (by assumption)) rfl ?_ | refine callQ_f (rdiv_w (by assumption) (by assumption) (by omega) (by omega) (by assumption)) rfl ?_ | refine And.intro (by omega) ?_ | refine And.intro (And.intro (by omega) (by omega)) ?_)
      refine call_fl hsum (flatF_fr _) (FrzL.cons (Frz.own0 rfl evD_len.symm) (FrzL.nil _)) ?_
      repeat (first | (with_reducible first | refine W_seq fun K hK => ?_ | refine J_block ?_ | refine J_skip ?_ | refine J_exit ?_ | refine J_ret ?_ | refine J_region ?_ | refine J_orders (id := 9) [17] (.one 0 (.one 1 (.one 2 (.one 3 (.one 4 (.one 5 (.one 6 (.one 7 (.one 8 (.one 9 (.one 10 (.one 11 (.one 12 (.one 13 (.one 14 (.one 15 (.one 16 (.one 17 (.one 18 .leaf))))))))))))))))))) mixed (by kernel_rfl) ?_  | refine J_drawn mixed (by kernel_rfl) ?_ | refine aApp_sl ?_ | refine aApp_old ?_ | refine J_c ?_ | refine Jc_true ?_ | refine Jc_false ?_ | exact Frz.f _ | (refine Kont.go (by assumption) ?_) | (simp (config := { maxSteps := 3000000 }) (disch := omega) only [go_sem, Nat.reduceEqDiff, ↓reduceIte, Nat.reduceAdd, Nat.reduceLT, Nat.reduceLeDiff, Int.reduceLT, Int.reduceLE, Int.reduceEq, Int.reduceNe, Int.reduceAdd, Int.reduceSub, Int.reduceMul, Int.reduceNeg, Int.reduceToNat])) | refine call_f (radd_w (by assumption) (by assumption) (by omega) (by omega)) rfl ?_ | refine callQ_f (radd_w (by assumption) (by assumption) (by omega) (by omega)) rfl ?_ | refine call_f (rdiv_w (by assumption) (by assumption) (by omega) (by omega) (by assumption)) rfl ?_ | refine callQ_f (rdiv_w (by assumption) (by assumption) (by omega) (by omega) (by assumption)) rfl ?_ | refine And.intro (by omega) ?_ | refine And.intro (And.intro (by omega) (by omega)) ?_)
      refine W_loop [8, 41, 42, 43, 44, 45, 46, 47, 48, 49, 50, 51, 52, 53, 54, 55, 56, 57, 58] (fun x : Nat => [(8, .f (I x))]) (fun x : Nat => [ob 49 1 (evLs n (at2 m) i), some ⟨55, 3, (evD n (at2 m) i x).map .f⟩, oF (fr (evS n (at2 m) i))]) (fun x : Nat => x ≤ n) (fun x : Nat => n - x) (0) (Nat.zero_le _) (by refine weak_of ?_ ?_ <;> simp (disch := omega) only [go_sem, Nat.reduceAdd, Nat.reduceLT, Nat.reduceEqDiff] <;> first | rfl | exact ⟨rfl, rfl⟩ | exact Or.inl rfl | exact ⟨Or.inl rfl, Or.inl rfl⟩ | trivial | assumption | omega | (symm; assumption) | ((repeat' apply And.intro) <;> first | rfl | omega | trivial | exact .inr ⟨rfl, rfl⟩ | exact .inr rfl | (right; symm; assumption) | (symm; assumption) | assumption)) ?_
      rintro q hq
      simp only [go_sem, Nat.reduceAdd, Nat.reduceLT, Nat.reduceEqDiff]
      repeat (first | (with_reducible first | refine W_seq fun K hK => ?_ | refine J_block ?_ | refine J_skip ?_ | refine J_exit ?_ | refine J_ret ?_ | refine J_region ?_ | refine J_orders (id := 9) [17] (.one 0 (.one 1 (.one 2 (.one 3 (.one 4 (.one 5 (.one 6 (.one 7 (.one 8 (.one 9 (.one 10 (.one 11 (.one 12 (.one 13 (.one 14 (.one 15 (.one 16 (.one 17 (.one 18 .leaf))))))))))))))))))) mixed (by kernel_rfl) ?_  | refine J_drawn mixed (by kernel_rfl) ?_ | refine aApp_sl ?_ | refine aApp_old ?_ | refine J_c ?_ | refine Jc_true ?_ | refine Jc_false ?_ | exact Frz.f _ | (refine Kont.go (by assumption) ?_) | (simp (config := { maxSteps := 3000000 }) (disch := omega) only [go_sem, Nat.reduceEqDiff, ↓reduceIte, Nat.reduceAdd, Nat.reduceLT, Nat.reduceLeDiff, Int.reduceLT, Int.reduceLE, Int.reduceEq, Int.reduceNe, Int.reduceAdd, Int.reduceSub, Int.reduceMul, Int.reduceNeg, Int.reduceToNat, hyl])) | refine call_f (radd_w (by assumption) (by assumption) (by omega) (by omega)) rfl ?_ | refine callQ_f (radd_w (by assumption) (by assumption) (by omega) (by omega)) rfl ?_ | refine call_f (rdiv_w (by assumption) (by assumption) (by omega) (by omega) (by assumption)) rfl ?_ | refine callQ_f (rdiv_w (by assumption) (by assumption) (by omega) (by omega) (by assumption)) rfl ?_ | refine And.intro (by omega) ?_ | refine And.intro (And.intro (by omega) (by omega)) ?_)
      refine Jc_if (fun hqn => ?_) (fun hqn => ?_) <;> try simp only [decide_eq_true_eq, decide_eq_false_iff_not, Bool.not_eq_true', Bool.not_eq_false', Bool.not_true, Bool.not_false, Int.ofNat_lt, Int.ofNat_le, Int.natCast_inj, Classical.not_not] at hqn
      · have g1 := evD_get (A := at2 m) (i := i) hqn
        have g2 := evD_set (A := at2 m) (i := i) hqn
        have g3 := evD_len (n := n) (A := at2 m) (i := i) (x := q)
        have f1 := IsFr.c (hR i q hil hqn)
        have f2 := IsFr.c (hSz i hil)
        have f0 := hS0 i hil
        have hv : fr (evR n (at2 m) i q / evS n (at2 m) i) = fr (evM n (at2 m) i q) := rfl
        repeat (first | (with_reducible first | refine W_seq fun K hK => ?_ | refine J_block ?_ | refine J_skip ?_ | refine J_exit ?_ | refine J_ret ?_ | refine J_region ?_ | refine J_orders (id := 9) [17] (.one 0 (.one 1 (.one 2 (.one 3 (.one 4 (.one 5 (.one 6 (.one 7 (.one 8 (.one 9 (.one 10 (.one 11 (.one 12 (.one 13 (.one 14 (.one 15 (.one 16 (.one 17 (.one 18 .leaf))))))))))))))))))) mixed (by kernel_rfl) ?_  | refine J_drawn mixed (by kernel_rfl) ?_ | refine aApp_sl ?_ | refine aApp_old ?_ | refine J_c ?_ | refine Jc_true ?_ | refine Jc_false ?_ | exact Frz.f _ | (refine Kont.go (by assumption) ?_) | (simp (config := { maxSteps := 3000000 }) (disch := omega) only [go_sem, Nat.reduceEqDiff, ↓reduceIte, Nat.reduceAdd, Nat.reduceLT, Nat.reduceLeDiff, Int.reduceLT, Int.reduceLE, Int.reduceEq, Int.reduceNe, Int.reduceAdd, Int.reduceSub, Int.reduceMul, Int.reduceNeg, Int.reduceToNat, g1, g3, hv, g2, Nat.reduceMul, Nat.le_refl, true_and, and_true, and_self])) | refine call_f (radd_w (by assumption) (by assumption) (by omega) (by omega)) rfl ?_ | refine callQ_f (radd_w (by assumption) (by assumption) (by omega) (by omega)) rfl ?_ | refine call_f (rdiv_w (by assumption) (by assumption) (by omega) (by omega) (by assumption)) rfl ?_ | refine callQ_f (rdiv_w (by assumption) (by assumption) (by omega) (by omega) (by assumption)) rfl ?_ | refine And.intro (by omega) ?_ | refine And.intro (And.intro (by omega) (by omega)) ?_)
        refine ⟨q + 1, by omega, by omega, weak_of ?_ ?_⟩ <;> (try simp (disch := omega) only [go_sem, Nat.reduceAdd, Nat.reduceLT, Nat.reduceEqDiff]) <;> (try first | done | omega | rfl | exact ⟨rfl, rfl⟩ | trivial)
      · have he2 : q = n := by omega
        subst he2
        rw [evD_all]
        refine J_freezeO (j := 5) rfl (by rw [List.length_map, evL_len]) rfl ?_
        have hnx := evLs_next (n := q) (A := at2 m) (x := i)
        have hll := evLs_len (n := q) (A := at2 m) (x := i)
        repeat (first | (with_reducible first | refine W_seq fun K hK => ?_ | refine J_block ?_ | refine J_skip ?_ | refine J_exit ?_ | refine J_ret ?_ | refine J_region ?_ | refine J_orders (id := 9) [17] (.one 0 (.one 1 (.one 2 (.one 3 (.one 4 (.one 5 (.one 6 (.one 7 (.one 8 (.one 9 (.one 10 (.one 11 (.one 12 (.one 13 (.one 14 (.one 15 (.one 16 (.one 17 (.one 18 .leaf))))))))))))))))))) mixed (by kernel_rfl) ?_  | refine J_drawn mixed (by kernel_rfl) ?_ | refine aApp_sl ?_ | refine aApp_old ?_ | refine J_c ?_ | refine Jc_true ?_ | refine Jc_false ?_ | exact Frz.f _ | (refine Kont.go (by assumption) ?_) | (simp (config := { maxSteps := 3000000 }) (disch := omega) only [go_sem, Nat.reduceEqDiff, ↓reduceIte, Nat.reduceAdd, Nat.reduceLT, Nat.reduceLeDiff, Int.reduceLT, Int.reduceLE, Int.reduceEq, Int.reduceNe, Int.reduceAdd, Int.reduceSub, Int.reduceMul, Int.reduceNeg, Int.reduceToNat, hnx, hll])) | refine call_f (radd_w (by assumption) (by assumption) (by omega) (by omega)) rfl ?_ | refine callQ_f (radd_w (by assumption) (by assumption) (by omega) (by omega)) rfl ?_ | refine call_f (rdiv_w (by assumption) (by assumption) (by omega) (by omega) (by assumption)) rfl ?_ | refine callQ_f (rdiv_w (by assumption) (by assumption) (by omega) (by omega) (by assumption)) rfl ?_ | refine And.intro (by omega) ?_ | refine And.intro (And.intro (by omega) (by omega)) ?_)
        refine ⟨i + 1, by omega, by omega, weak_of ?_ ?_⟩ <;> (try simp (disch := omega) only [go_sem, Nat.reduceAdd, Nat.reduceLT, Nat.reduceEqDiff]) <;> (try first | done | omega | rfl | exact ⟨rfl, rfl⟩ | trivial)
  · have he : i = n := by omega
    subst he
    repeat (first | (with_reducible first | refine W_seq fun K hK => ?_ | refine J_block ?_ | refine J_skip ?_ | refine J_exit ?_ | refine J_ret ?_ | refine J_region ?_ | refine J_orders (id := 9) [17] (.one 0 (.one 1 (.one 2 (.one 3 (.one 4 (.one 5 (.one 6 (.one 7 (.one 8 (.one 9 (.one 10 (.one 11 (.one 12 (.one 13 (.one 14 (.one 15 (.one 16 (.one 17 (.one 18 .leaf))))))))))))))))))) mixed (by kernel_rfl) ?_  | refine J_drawn mixed (by kernel_rfl) ?_ | refine aApp_sl ?_ | refine aApp_old ?_ | refine J_c ?_ | refine Jc_true ?_ | refine Jc_false ?_ | exact Frz.f _ | (refine Kont.go (by assumption) ?_) | (simp (config := { maxSteps := 3000000 }) (disch := omega) only [go_sem, Nat.reduceEqDiff, ↓reduceIte, Nat.reduceAdd, Nat.reduceLT, Nat.reduceLeDiff, Int.reduceLT, Int.reduceLE, Int.reduceEq, Int.reduceNe, Int.reduceAdd, Int.reduceSub, Int.reduceMul, Int.reduceNeg, Int.reduceToNat])) | refine call_f (radd_w (by assumption) (by assumption) (by omega) (by omega)) rfl ?_ | refine callQ_f (radd_w (by assumption) (by assumption) (by omega) (by omega)) rfl ?_ | refine call_f (rdiv_w (by assumption) (by assumption) (by omega) (by omega) (by assumption)) rfl ?_ | refine callQ_f (rdiv_w (by assumption) (by assumption) (by omega) (by omega) (by assumption)) rfl ?_ | refine And.intro (by omega) ?_ | refine And.intro (And.intro (by omega) (by omega)) ?_)
    exact Frz.sl rfl
end Go.Proofs.YtabmgfchkcmcmaaDoor
