/- Lists of places; In; rising lists. Conditions: what slices may hold. -/
import Derived.Test.YtcgagiimlkjcpaaDoorZB12
import Derived.Test.YtcgagiimlkjcpaaDoorZSolW
set_option linter.unusedVariables false
set_option linter.unusedSimpArgs false
namespace Go.Proofs.YtcgagiimlkjcpaaDoor
open Go Go.RowKit
def Ns (l : List Nat) : List FV := l.map fun k : Nat => I (k : Int)
theorem Ns_len {l : List Nat} : (Ns l).length = l.length := by unfold Ns; rw [List.length_map]
theorem Ns_get {l : List Nat} {i : Nat} (h : i < l.length) : (Ns l)[i]? = some (I (l.getD i 0 : Nat)) := by
  unfold Ns; rw [map_get (fun k : Nat => I (k : Int)) l h, lget_lt l 0 h]
end Go.Proofs.YtcgagiimlkjcpaaDoor
set_option linter.unusedVariables false
set_option linter.unusedSimpArgs false
namespace Go.Proofs.YtcgagiimlkjcpaaDoor
open Go Go.RowKit
set_option maxRecDepth 100000 in
theorem eql_bool (A B : Operand) (a b : Bool) (K : AV → Prop) : aBin Tryd.prog .eql 4 A B (.f (.v (.bool a))) (.f (.v (.bool b))) K = K (.f (.v (.bool (a == b)))) := by
  have hrun : ∀ w : World, (do eqGuard .eql 4 A B (.bool a) (.bool b); binOp .eql 4 (.bool a) (.bool b)).run Tryd.prog w = .ok (.bool (a == b)) w := fun w => by
    cases a <;> cases b <;> rfl
  refine propext ⟨fun h => ?_, fun h => ?_⟩
  · obtain ⟨u, v, r, hu, hv, hw, hk⟩ := h
    cases hu; cases hv
    have := (hrun default).symm.trans (hw default)
    cases this
    exact hk
  · exact ⟨_, _, _, rfl, rfl, hrun, h⟩
set_option maxRecDepth 100000 in
theorem index_w {bs : List Bool} (hl : bs.length ≤ 1000) : Good Tryd.prog 39 [.fz 1 (bs.map Bo), Bo true] (I (firstI (fun i => bs.getD i false) bs.length)) := by
  refine good_of Tryd.func39 rfl (by kernel_rfl) fun X hO hrd => ?_; rw [Tryd.ntmps39, Tryd.results39]; simp only [ast0, List.map_cons, List.map_nil, List.length_cons, List.length_nil, Nat.reduceAdd, Nat.reduceSub, List.replicate_succ, List.replicate_zero, List.cons_append, List.nil_append]
  repeat (first | (with_reducible first | refine W_seq fun K hK => ?_ | refine J_block ?_ | refine J_skip ?_ | refine J_exit ?_ | refine J_ret ?_ | refine J_region ?_  | refine J_drawn mixed (by kernel_rfl) ?_ | refine aApp_sl ?_ | refine aApp_old ?_ | refine J_c ?_ | refine Jc_true ?_ | refine Jc_false ?_ | exact Frz.f _ | (refine Kont.go (by assumption) ?_) | (simp (config := { maxSteps := 3000000 }) (disch := omega) only [go_sem, Nat.reduceEqDiff, ↓reduceIte, Nat.reduceAdd, Nat.reduceLT, Nat.reduceLeDiff, Int.reduceLT, Int.reduceLE, Int.reduceEq, Int.reduceNe, Int.reduceAdd, Int.reduceSub, Int.reduceMul, Int.reduceNeg, Int.reduceToNat, List.length_map])) | refine And.intro (by omega) ?_ | refine And.intro (And.intro (by omega) (by omega)) ?_)
  refine W_loop [4, 5, 8, 9, 10, 11, 12, 13, 14, 15, 16, 17, 18] (fun x : Nat => [(8, .f (I x))]) (fun x : Nat => []) (fun x : Nat => x ≤ bs.length ∧ ∀ j, j < x → bs.getD j false = false) (fun x : Nat => bs.length - x) (0) (⟨Nat.zero_le _, fun j h => by omega⟩) (by refine weak_of ?_ ?_ <;> simp (disch := omega) only [go_sem, Nat.reduceAdd, Nat.reduceLT, Nat.reduceEqDiff] <;> first | rfl | exact ⟨rfl, rfl⟩ | exact Or.inl rfl | exact ⟨Or.inl rfl, Or.inl rfl⟩ | trivial | assumption | omega | (symm; assumption) | ((repeat' apply And.intro) <;> first | rfl | omega | trivial | exact .inr ⟨rfl, rfl⟩ | exact .inr rfl | (right; symm; assumption) | (symm; assumption) | assumption)) ?_
  rintro i ⟨hi, hp⟩
  simp only [go_sem, Nat.reduceAdd, Nat.reduceLT, Nat.reduceEqDiff]
  repeat (first | (with_reducible first | refine W_seq fun K hK => ?_ | refine J_block ?_ | refine J_skip ?_ | refine J_exit ?_ | refine J_ret ?_ | refine J_region ?_  | refine J_drawn mixed (by kernel_rfl) ?_ | refine aApp_sl ?_ | refine aApp_old ?_ | refine J_c ?_ | refine Jc_true ?_ | refine Jc_false ?_ | exact Frz.f _ | (refine Kont.go (by assumption) ?_) | (simp (config := { maxSteps := 3000000 }) (disch := omega) only [go_sem, Nat.reduceEqDiff, ↓reduceIte, Nat.reduceAdd, Nat.reduceLT, Nat.reduceLeDiff, Int.reduceLT, Int.reduceLE, Int.reduceEq, Int.reduceNe, Int.reduceAdd, Int.reduceSub, Int.reduceMul, Int.reduceNeg, Int.reduceToNat, List.length_map])) | refine And.intro (by omega) ?_ | refine And.intro (And.intro (by omega) (by omega)) ?_)
  refine Jc_if (fun hlt => ?_) (fun hlt => ?_) <;> try simp only [decide_eq_true_eq, decide_eq_false_iff_not, Bool.not_eq_true', Bool.not_eq_false', Bool.not_true, Bool.not_false, Int.ofNat_lt, Int.ofNat_le, Int.natCast_inj, Classical.not_not] at hlt
  · have hx : (bs.map Bo)[i]? = some (Bo (bs.getD i false)) := by rw [map_get Bo bs hlt, lget_lt bs false hlt]
    cases hb : bs.getD i false with
    | true =>
      rw [hb] at hx
      have e : firstI (fun i => bs.getD i false) bs.length = i := firstI_some hlt hb hp
      repeat (first | (with_reducible first | refine W_seq fun K hK => ?_ | refine J_block ?_ | refine J_skip ?_ | refine J_exit ?_ | refine J_ret ?_ | refine J_region ?_  | refine J_drawn mixed (by kernel_rfl) ?_ | refine aApp_sl ?_ | refine aApp_old ?_ | refine J_c ?_ | refine Jc_true ?_ | refine Jc_false ?_ | exact Frz.f _ | (refine Kont.go (by assumption) ?_) | (simp (config := { maxSteps := 3000000 }) (disch := omega) only [go_sem, Nat.reduceEqDiff, ↓reduceIte, Nat.reduceAdd, Nat.reduceLT, Nat.reduceLeDiff, Int.reduceLT, Int.reduceLE, Int.reduceEq, Int.reduceNe, Int.reduceAdd, Int.reduceSub, Int.reduceMul, Int.reduceNeg, Int.reduceToNat, hx, List.length_map, eql_bool, Bool.true_beq])) | refine And.intro (by omega) ?_ | refine And.intro (And.intro (by omega) (by omega)) ?_)
      rw [e]
      exact Frz.f _
    | false =>
      rw [hb] at hx
      repeat (first | (with_reducible first | refine W_seq fun K hK => ?_ | refine J_block ?_ | refine J_skip ?_ | refine J_exit ?_ | refine J_ret ?_ | refine J_region ?_  | refine J_drawn mixed (by kernel_rfl) ?_ | refine aApp_sl ?_ | refine aApp_old ?_ | refine J_c ?_ | refine Jc_true ?_ | refine Jc_false ?_ | exact Frz.f _ | (refine Kont.go (by assumption) ?_) | (simp (config := { maxSteps := 3000000 }) (disch := omega) only [go_sem, Nat.reduceEqDiff, ↓reduceIte, Nat.reduceAdd, Nat.reduceLT, Nat.reduceLeDiff, Int.reduceLT, Int.reduceLE, Int.reduceEq, Int.reduceNe, Int.reduceAdd, Int.reduceSub, Int.reduceMul, Int.reduceNeg, Int.reduceToNat, hx, List.length_map, eql_bool, Bool.true_beq])) | refine And.intro (by omega) ?_ | refine And.intro (And.intro (by omega) (by omega)) ?_)
      refine ⟨i + 1, ⟨by omega, upto_next (p := fun j => bs.getD j false = false) hp hb⟩, by omega, weak_of ?_ ?_⟩ <;> (try simp (disch := omega) only [go_sem, Nat.reduceAdd, Nat.reduceLT, Nat.reduceEqDiff]) <;> (try first | done | omega | rfl | exact ⟨rfl, rfl⟩ | trivial)
  · have he : i = bs.length := by omega
    have e : firstI (fun i => bs.getD i false) bs.length = -1 := firstI_none (he ▸ hp)
    repeat (first | (with_reducible first | refine W_seq fun K hK => ?_ | refine J_block ?_ | refine J_skip ?_ | refine J_exit ?_ | refine J_ret ?_ | refine J_region ?_  | refine J_drawn mixed (by kernel_rfl) ?_ | refine aApp_sl ?_ | refine aApp_old ?_ | refine J_c ?_ | refine Jc_true ?_ | refine Jc_false ?_ | exact Frz.f _ | (refine Kont.go (by assumption) ?_) | (simp (config := { maxSteps := 3000000 }) (disch := omega) only [go_sem, Nat.reduceEqDiff, ↓reduceIte, Nat.reduceAdd, Nat.reduceLT, Nat.reduceLeDiff, Int.reduceLT, Int.reduceLE, Int.reduceEq, Int.reduceNe, Int.reduceAdd, Int.reduceSub, Int.reduceMul, Int.reduceNeg, Int.reduceToNat])) | refine And.intro (by omega) ?_ | refine And.intro (And.intro (by omega) (by omega)) ?_)
    rw [e]
    exact Frz.f _
set_option maxRecDepth 100000 in
theorem contains_w {bs : List Bool} (hl : bs.length ≤ 1000) : Good Tryd.prog 40 [.fz 1 (bs.map Bo), Bo true] (Bo (decide (0 ≤ firstI (fun i => bs.getD i false) bs.length))) := by
  have h := index_w hl
  refine good_of Tryd.func40 rfl (by kernel_rfl) fun X hO hrd => ?_; rw [Tryd.ntmps40, Tryd.results40]; simp only [ast0, List.map_cons, List.map_nil, List.length_cons, List.length_nil, Nat.reduceAdd, Nat.reduceSub, List.replicate_succ, List.replicate_zero, List.cons_append, List.nil_append]
  repeat (first | (with_reducible first | refine W_seq fun K hK => ?_ | refine J_block ?_ | refine J_skip ?_ | refine J_exit ?_ | refine J_ret ?_ | refine J_region ?_  | refine J_drawn mixed (by kernel_rfl) ?_ | refine aApp_sl ?_ | refine aApp_old ?_ | refine J_c ?_ | refine Jc_true ?_ | refine Jc_false ?_ | exact Frz.f _ | (refine Kont.go (by assumption) ?_) | (simp (config := { maxSteps := 3000000 }) (disch := omega) only [go_sem, Nat.reduceEqDiff, ↓reduceIte, Nat.reduceAdd, Nat.reduceLT, Nat.reduceLeDiff, Int.reduceLT, Int.reduceLE, Int.reduceEq, Int.reduceNe, Int.reduceAdd, Int.reduceSub, Int.reduceMul, Int.reduceNeg, Int.reduceToNat])) | refine And.intro (by omega) ?_ | refine And.intro (And.intro (by omega) (by omega)) ?_)
  refine call_f h rfl ?_
  repeat (first | (with_reducible first | refine W_seq fun K hK => ?_ | refine J_block ?_ | refine J_skip ?_ | refine J_exit ?_ | refine J_ret ?_ | refine J_region ?_  | refine J_drawn mixed (by kernel_rfl) ?_ | refine aApp_sl ?_ | refine aApp_old ?_ | refine J_c ?_ | refine Jc_true ?_ | refine Jc_false ?_ | exact Frz.f _ | (refine Kont.go (by assumption) ?_) | (simp (config := { maxSteps := 3000000 }) (disch := omega) only [go_sem, Nat.reduceEqDiff, ↓reduceIte, Nat.reduceAdd, Nat.reduceLT, Nat.reduceLeDiff, Int.reduceLT, Int.reduceLE, Int.reduceEq, Int.reduceNe, Int.reduceAdd, Int.reduceSub, Int.reduceMul, Int.reduceNeg, Int.reduceToNat])) | refine And.intro (by omega) ?_ | refine And.intro (And.intro (by omega) (by omega)) ?_)
def clsK (R : Bx) (i k : Nat) : List Nat := (List.range k).filter fun j => R i j && R j i
def opnK (R : Bx) (i k : Nat) : Bool := (List.range k).any fun j => R i j && !R j i
def repL (n : Nat) (R : Bx) (x : Nat) : List (List Nat) := ((List.range x).filter (isRep n R)).map (cls n R)
def shutL (n : Nat) (R : Bx) (x : Nat) : List Bool := ((List.range x).filter (isRep n R)).map (clo n R)
def repF (n : Nat) (R : Bx) (x : Nat) : List FV := (repL n R x).map fun l => .fz 1 (Ns l)
def shutF (n : Nat) (R : Bx) (x : Nat) : List FV := (shutL n R x).map Bo
section
variable {n i k x : Nat} {R : Bx}
theorem clsK_yes (h : (R i k && R k i) = true) : Ns (clsK R i k) ++ [I (k : Int)] = Ns (clsK R i (k + 1)) := by
  unfold Ns clsK; rw [List.range_succ, List.filter_append, List.map_append]; simp [h]
theorem clsK_no (h : (R i k && R k i) = false) : Ns (clsK R i k) = Ns (clsK R i (k + 1)) := by
  unfold Ns clsK; rw [List.range_succ, List.filter_append, List.map_append]; simp [h]
theorem opnK_next : opnK R i (k + 1) = (opnK R i k || (R i k && !R k i)) := by
  unfold opnK; rw [List.range_succ, List.any_append]; simp
theorem clsK_len : (Ns (clsK R i k)).length ≤ k := by
  unfold Ns clsK; rw [List.length_map]; exact Nat.le_trans (List.length_filter_le _ _) (by simp)
theorem repF_yes (h : isRep n R x = true) : repF n R x ++ [.fz 1 (Ns (cls n R x))] = repF n R (x + 1) := by
  unfold repF repL; rw [List.range_succ, List.filter_append]; simp [h]
theorem repF_no (h : isRep n R x = false) : repF n R x = repF n R (x + 1) := by
  unfold repF repL; rw [List.range_succ, List.filter_append]; simp [h]
theorem shutF_yes (h : isRep n R x = true) : shutF n R x ++ [Bo (clo n R x)] = shutF n R (x + 1) := by
  unfold shutF shutL; rw [List.range_succ, List.filter_append]; simp [h]
theorem shutF_no (h : isRep n R x = false) : shutF n R x = shutF n R (x + 1) := by
  unfold shutF shutL; rw [List.range_succ, List.filter_append]; simp [h]
theorem repF_len : (repF n R x).length ≤ x := by
  unfold repF repL; rw [List.length_map, List.length_map]; exact Nat.le_trans (List.length_filter_le _ _) (by simp)
theorem shutF_len : (shutF n R x).length ≤ x := by
  unfold shutF shutL; rw [List.length_map, List.length_map]; exact Nat.le_trans (List.length_filter_le _ _) (by simp)
theorem b2i_one (b : Bool) : (b2i b = 1) = (b = true) := by cases b <;> decide
theorem b2i_lt (a b : Bool) : (b2i a < b2i b) = ((b && !a) = true) := by cases a <;> cases b <;> decide
end
set_option maxRecDepth 100000 in
set_option maxHeartbeats 8000000 in
theorem classes_w {b : Nat} {ys : List FV} {m : List (List Rat)} (hm : FrM b ys m) (h1 : 1 ≤ b) (hb : b ≤ 1000000) (hmx : m.length ≤ 140737488355328) (h0 : chkM m = 0) :
    Good Tryd.prog 8 [.fz 1 ys] (.tup [.fz 1 (repF m.length (wsh (edg m) m.length) m.length), .fz 1 (shutF m.length (wsh (edg m) m.length) m.length), I 0]) := by
  have hc := check_w hm h1 (by omega) hmx
  rw [h0] at hc
  obtain ⟨hsq, hn1, hch⟩ := chk_sq hm h0
  have hr := reach_w hsq h1 (by omega) hn1
  have hn6 := hsq.le
  obtain ⟨n, hn⟩ : ∃ n, n = m.length := ⟨_, rfl⟩
  rw [← hn] at hn1 hr hn6 ⊢
  obtain ⟨R, hR⟩ : ∃ R, R = wsh (edg m) n := ⟨_, rfl⟩
  rw [← hR] at hr ⊢
  have hpre : Pre n R := by rw [hR]; exact wsh_pre
  have hrv : reachV n R = .fz 1 ((List.range n).map fun i => .fz 1 (rowW n R i)) := rfl
  have hyl : ys.length = n := hm.len.trans hn.symm
  have vg : ∀ q, q < n → ((List.range n).map fun i => FV.fz 1 (rowW n R i))[q]? = some (.fz 1 (rowW n R q)) := fun q hq => by simp [hq]
  have vl : ((List.range n).map fun i => FV.fz 1 (rowW n R i)).length = n := by simp
  have rg : ∀ a q, q < n → (rowW n R a)[q]? = some (I (b2i (R a q))) := fun a q hq => by simp [rowW, hq]
  have rl : ∀ a, (rowW n R a).length = n := fun a => rowW_len
  refine good_of Tryd.func8 rfl (by kernel_rfl) fun X hO hrd => ?_; rw [Tryd.ntmps8, Tryd.results8]; simp only [ast0, List.map_cons, List.map_nil, List.length_cons, List.length_nil, Nat.reduceAdd, Nat.reduceSub, List.replicate_succ, List.replicate_zero, List.cons_append, List.nil_append]
  repeat (first | (with_reducible first | refine W_seq fun K hK => ?_ | refine J_block ?_ | refine J_skip ?_ | refine J_exit ?_ | refine J_ret ?_ | refine J_region ?_  | refine J_drawn mixed (by kernel_rfl) ?_ | refine aApp_sl ?_ | refine aApp_old ?_ | refine J_c ?_ | refine Jc_true ?_ | refine Jc_false ?_ | exact Frz.f _ | (refine Kont.go (by assumption) ?_) | (simp (config := { maxSteps := 3000000 }) (disch := omega) only [go_sem, Nat.reduceEqDiff, ↓reduceIte, Nat.reduceAdd, Nat.reduceLT, Nat.reduceLeDiff, Int.reduceLT, Int.reduceLE, Int.reduceEq, Int.reduceNe, Int.reduceAdd, Int.reduceSub, Int.reduceMul, Int.reduceNeg, Int.reduceToNat])) | refine And.intro (by omega) ?_ | refine And.intro (And.intro (by omega) (by omega)) ?_)
  refine call_f hc rfl ?_
  repeat (first | (with_reducible first | refine W_seq fun K hK => ?_ | refine J_block ?_ | refine J_skip ?_ | refine J_exit ?_ | refine J_ret ?_ | refine J_region ?_  | refine J_drawn mixed (by kernel_rfl) ?_ | refine aApp_sl ?_ | refine aApp_old ?_ | refine J_c ?_ | refine Jc_true ?_ | refine Jc_false ?_ | exact Frz.f _ | (refine Kont.go (by assumption) ?_) | (simp (config := { maxSteps := 3000000 }) (disch := omega) only [go_sem, Nat.reduceEqDiff, ↓reduceIte, Nat.reduceAdd, Nat.reduceLT, Nat.reduceLeDiff, Int.reduceLT, Int.reduceLE, Int.reduceEq, Int.reduceNe, Int.reduceAdd, Int.reduceSub, Int.reduceMul, Int.reduceNeg, Int.reduceToNat])) | refine And.intro (by omega) ?_ | refine And.intro (And.intro (by omega) (by omega)) ?_)
  refine call_f hr rfl ?_
  repeat (first | (with_reducible first | refine W_seq fun K hK => ?_ | refine J_block ?_ | refine J_skip ?_ | refine J_exit ?_ | refine J_ret ?_ | refine J_region ?_  | refine J_drawn mixed (by kernel_rfl) ?_ | refine aApp_sl ?_ | refine aApp_old ?_ | refine J_c ?_ | refine Jc_true ?_ | refine Jc_false ?_ | exact Frz.f _ | (refine Kont.go (by assumption) ?_) | (simp (config := { maxSteps := 3000000 }) (disch := omega) only [go_sem, Nat.reduceEqDiff, ↓reduceIte, Nat.reduceAdd, Nat.reduceLT, Nat.reduceLeDiff, Int.reduceLT, Int.reduceLE, Int.reduceEq, Int.reduceNe, Int.reduceAdd, Int.reduceSub, Int.reduceMul, Int.reduceNeg, Int.reduceToNat, hyl, hrv])) | refine And.intro (by omega) ?_ | refine And.intro (And.intro (by omega) (by omega)) ?_)
  refine J_reserve ?_
  refine J_reserve ?_
  refine W_loop [2, 3, 7, 8, 9, 10, 20, 21, 22, 23, 24, 25, 26, 27, 28, 29, 30, 31, 32, 33, 34, 35, 36, 37, 38, 39, 40, 41, 42, 43, 44, 45, 46, 47, 48, 49, 50, 51, 52, 53, 54, 55, 56, 57, 58, 59, 60, 61, 62, 63, 64, 65, 66, 67, 68, 69, 70, 71, 72, 73, 74, 75, 76, 77, 78, 79, 80, 81] (fun x : Nat => [(2, sl 0 1 (repF n R x)), (3, sl 1 1 (shutF n R x)), (20, .f (I x))]) (fun x : Nat => [ob 22 1 (repF n R x), ob 4 1 (shutF n R x)]) (fun x : Nat => x ≤ n) (fun x : Nat => n - x) (0) (Nat.zero_le _) (by refine weak_of ?_ ?_ <;> simp (disch := omega) only [go_sem, Nat.reduceAdd, Nat.reduceLT, Nat.reduceEqDiff] <;> first | rfl | exact ⟨rfl, rfl⟩ | exact Or.inl rfl | exact ⟨Or.inl rfl, Or.inl rfl⟩ | trivial | assumption | omega | (symm; assumption) | ((repeat' apply And.intro) <;> first | rfl | omega | trivial | exact .inr ⟨rfl, rfl⟩ | exact .inr rfl | (right; symm; assumption) | (symm; assumption) | assumption)) ?_
  rintro i hi
  simp only [go_sem, Nat.reduceAdd, Nat.reduceLT, Nat.reduceEqDiff]
  repeat (first | (with_reducible first | refine W_seq fun K hK => ?_ | refine J_block ?_ | refine J_skip ?_ | refine J_exit ?_ | refine J_ret ?_ | refine J_region ?_  | refine J_drawn mixed (by kernel_rfl) ?_ | refine aApp_sl ?_ | refine aApp_old ?_ | refine J_c ?_ | refine Jc_true ?_ | refine Jc_false ?_ | exact Frz.f _ | (refine Kont.go (by assumption) ?_) | (simp (config := { maxSteps := 3000000 }) (disch := omega) only [go_sem, Nat.reduceEqDiff, ↓reduceIte, Nat.reduceAdd, Nat.reduceLT, Nat.reduceLeDiff, Int.reduceLT, Int.reduceLE, Int.reduceEq, Int.reduceNe, Int.reduceAdd, Int.reduceSub, Int.reduceMul, Int.reduceNeg, Int.reduceToNat])) | refine And.intro (by omega) ?_ | refine And.intro (And.intro (by omega) (by omega)) ?_)
  refine Jc_if (fun hil => ?_) (fun hil => ?_) <;> try simp only [decide_eq_true_eq, decide_eq_false_iff_not, Bool.not_eq_true', Bool.not_eq_false', Bool.not_true, Bool.not_false, Int.ofNat_lt, Int.ofNat_le, Int.natCast_inj, Classical.not_not] at hil
  · repeat (first | (with_reducible first | refine W_seq fun K hK => ?_ | refine J_block ?_ | refine J_skip ?_ | refine J_exit ?_ | refine J_ret ?_ | refine J_region ?_  | refine J_drawn mixed (by kernel_rfl) ?_ | refine aApp_sl ?_ | refine aApp_old ?_ | refine J_c ?_ | refine Jc_true ?_ | refine Jc_false ?_ | exact Frz.f _ | (refine Kont.go (by assumption) ?_) | (simp (config := { maxSteps := 3000000 }) (disch := omega) only [go_sem, Nat.reduceEqDiff, ↓reduceIte, Nat.reduceAdd, Nat.reduceLT, Nat.reduceLeDiff, Int.reduceLT, Int.reduceLE, Int.reduceEq, Int.reduceNe, Int.reduceAdd, Int.reduceSub, Int.reduceMul, Int.reduceNeg, Int.reduceToNat, hyl, hrv])) | refine And.intro (by omega) ?_ | refine And.intro (And.intro (by omega) (by omega)) ?_)
    refine J_reserve ?_
    refine W_loop [8, 9, 10, 25, 26, 27, 28, 29, 30, 31, 32, 33, 34, 35, 36, 37, 38, 39, 40, 41, 42, 43, 44, 45, 46, 47, 48, 49, 50, 51, 52, 53, 54, 55, 56, 57, 58, 59, 60, 61, 62, 63, 64, 65, 66] (fun x : Nat => [(8, sl 2 1 (Ns (clsK R i x))), (9, .f (Bo (opnK R i x))), (25, .f (I x))]) (fun x : Nat => [ob 22 1 (repF n R i), ob 4 1 (shutF n R i), ob 3 1 (Ns (clsK R i x))]) (fun x : Nat => x ≤ n) (fun x : Nat => n - x) (0) (Nat.zero_le _) (by refine weak_of ?_ ?_ <;> simp (disch := omega) only [go_sem, Nat.reduceAdd, Nat.reduceLT, Nat.reduceEqDiff] <;> first | rfl | exact ⟨rfl, rfl⟩ | exact Or.inl rfl | exact ⟨Or.inl rfl, Or.inl rfl⟩ | trivial | assumption | omega | (symm; assumption) | ((repeat' apply And.intro) <;> first | rfl | omega | trivial | exact .inr ⟨rfl, rfl⟩ | exact .inr rfl | (right; symm; assumption) | (symm; assumption) | assumption)) ?_
    rintro k hk
    simp only [go_sem, Nat.reduceAdd, Nat.reduceLT, Nat.reduceEqDiff]
    repeat (first | (with_reducible first | refine W_seq fun K hK => ?_ | refine J_block ?_ | refine J_skip ?_ | refine J_exit ?_ | refine J_ret ?_ | refine J_region ?_  | refine J_drawn mixed (by kernel_rfl) ?_ | refine aApp_sl ?_ | refine aApp_old ?_ | refine J_c ?_ | refine Jc_true ?_ | refine Jc_false ?_ | exact Frz.f _ | (refine Kont.go (by assumption) ?_) | (simp (config := { maxSteps := 3000000 }) (disch := omega) only [go_sem, Nat.reduceEqDiff, ↓reduceIte, Nat.reduceAdd, Nat.reduceLT, Nat.reduceLeDiff, Int.reduceLT, Int.reduceLE, Int.reduceEq, Int.reduceNe, Int.reduceAdd, Int.reduceSub, Int.reduceMul, Int.reduceNeg, Int.reduceToNat])) | refine And.intro (by omega) ?_ | refine And.intro (And.intro (by omega) (by omega)) ?_)
    refine Jc_if (fun hkl => ?_) (fun hkl => ?_) <;> try simp only [decide_eq_true_eq, decide_eq_false_iff_not, Bool.not_eq_true', Bool.not_eq_false', Bool.not_true, Bool.not_false, Int.ofNat_lt, Int.ofNat_le, Int.natCast_inj, Classical.not_not] at hkl
    · have g1 := vg i hil
      have g2 := vg k hkl
      have g3 := rg i k hkl
      have g4 := rg k i hil
      have hcl := clsK_len (R := R) (i := i) (k := k)
      have hox := opnK_next (R := R) (i := i) (k := k)
      cases ho : opnK R i k <;> cases hb1 : R i k <;> cases hb2 : R k i
      · repeat (first | (with_reducible first | refine W_seq fun K hK => ?_ | refine J_block ?_ | refine J_skip ?_ | refine J_exit ?_ | refine J_ret ?_ | refine J_region ?_  | refine J_drawn mixed (by kernel_rfl) ?_ | refine aApp_sl ?_ | refine aApp_old ?_ | refine J_c ?_ | refine Jc_true ?_ | refine Jc_false ?_ | exact Frz.f _ | (refine Kont.go (by assumption) ?_) | (simp (config := { maxSteps := 3000000 }) (disch := omega) only [go_sem, Nat.reduceEqDiff, ↓reduceIte, Nat.reduceAdd, Nat.reduceLT, Nat.reduceLeDiff, Int.reduceLT, Int.reduceLE, Int.reduceEq, Int.reduceNe, Int.reduceAdd, Int.reduceSub, Int.reduceMul, Int.reduceNeg, Int.reduceToNat, g1, g2, g3, g4, vl, rl, b2i_and, b2i_one, b2i_lt, hb1, hb2, ho, Nat.reduceMul, Nat.le_refl, true_and, and_true, and_self])) | refine And.intro (by omega) ?_ | refine And.intro (And.intro (by omega) (by omega)) ?_)
        simp only [ho, hb1, hb2, Bool.and_true, Bool.and_false, Bool.true_and, Bool.false_and, Bool.not_true, Bool.not_false, Bool.or_true, Bool.or_false, Bool.true_or, Bool.false_or] at hox
        first
          | rw [clsK_yes (by rw [hb1, hb2]; rfl)]
          | rw [clsK_no (R := R) (i := i) (k := k) (by rw [hb1, hb2]; rfl)]
        refine ⟨k + 1, by omega, by omega, weak_of ?_ ?_⟩ <;> (try simp (disch := omega) only [go_sem, Nat.reduceAdd, Nat.reduceLT, Nat.reduceEqDiff, hox]) <;> (try first | done | omega | rfl | exact ⟨rfl, rfl⟩ | trivial)
      · repeat (first | (with_reducible first | refine W_seq fun K hK => ?_ | refine J_block ?_ | refine J_skip ?_ | refine J_exit ?_ | refine J_ret ?_ | refine J_region ?_  | refine J_drawn mixed (by kernel_rfl) ?_ | refine aApp_sl ?_ | refine aApp_old ?_ | refine J_c ?_ | refine Jc_true ?_ | refine Jc_false ?_ | exact Frz.f _ | (refine Kont.go (by assumption) ?_) | (simp (config := { maxSteps := 3000000 }) (disch := omega) only [go_sem, Nat.reduceEqDiff, ↓reduceIte, Nat.reduceAdd, Nat.reduceLT, Nat.reduceLeDiff, Int.reduceLT, Int.reduceLE, Int.reduceEq, Int.reduceNe, Int.reduceAdd, Int.reduceSub, Int.reduceMul, Int.reduceNeg, Int.reduceToNat, g1, g2, g3, g4, vl, rl, b2i_and, b2i_one, b2i_lt, hb1, hb2, ho, Nat.reduceMul, Nat.le_refl, true_and, and_true, and_self])) | refine And.intro (by omega) ?_ | refine And.intro (And.intro (by omega) (by omega)) ?_)
        simp only [ho, hb1, hb2, Bool.and_true, Bool.and_false, Bool.true_and, Bool.false_and, Bool.not_true, Bool.not_false, Bool.or_true, Bool.or_false, Bool.true_or, Bool.false_or] at hox
        first
          | rw [clsK_yes (by rw [hb1, hb2]; rfl)]
          | rw [clsK_no (R := R) (i := i) (k := k) (by rw [hb1, hb2]; rfl)]
        refine ⟨k + 1, by omega, by omega, weak_of ?_ ?_⟩ <;> (try simp (disch := omega) only [go_sem, Nat.reduceAdd, Nat.reduceLT, Nat.reduceEqDiff, hox]) <;> (try first | done | omega | rfl | exact ⟨rfl, rfl⟩ | trivial)
      · repeat (first | (with_reducible first | refine W_seq fun K hK => ?_ | refine J_block ?_ | refine J_skip ?_ | refine J_exit ?_ | refine J_ret ?_ | refine J_region ?_  | refine J_drawn mixed (by kernel_rfl) ?_ | refine aApp_sl ?_ | refine aApp_old ?_ | refine J_c ?_ | refine Jc_true ?_ | refine Jc_false ?_ | exact Frz.f _ | (refine Kont.go (by assumption) ?_) | (simp (config := { maxSteps := 3000000 }) (disch := omega) only [go_sem, Nat.reduceEqDiff, ↓reduceIte, Nat.reduceAdd, Nat.reduceLT, Nat.reduceLeDiff, Int.reduceLT, Int.reduceLE, Int.reduceEq, Int.reduceNe, Int.reduceAdd, Int.reduceSub, Int.reduceMul, Int.reduceNeg, Int.reduceToNat, g1, g2, g3, g4, vl, rl, b2i_and, b2i_one, b2i_lt, hb1, hb2, ho, Nat.reduceMul, Nat.le_refl, true_and, and_true, and_self])) | refine And.intro (by omega) ?_ | refine And.intro (And.intro (by omega) (by omega)) ?_)
        simp only [ho, hb1, hb2, Bool.and_true, Bool.and_false, Bool.true_and, Bool.false_and, Bool.not_true, Bool.not_false, Bool.or_true, Bool.or_false, Bool.true_or, Bool.false_or] at hox
        first
          | rw [clsK_yes (by rw [hb1, hb2]; rfl)]
          | rw [clsK_no (R := R) (i := i) (k := k) (by rw [hb1, hb2]; rfl)]
        refine ⟨k + 1, by omega, by omega, weak_of ?_ ?_⟩ <;> (try simp (disch := omega) only [go_sem, Nat.reduceAdd, Nat.reduceLT, Nat.reduceEqDiff, hox]) <;> (try first | done | omega | rfl | exact ⟨rfl, rfl⟩ | trivial)
      · repeat (first | (with_reducible first | refine W_seq fun K hK => ?_ | refine J_block ?_ | refine J_skip ?_ | refine J_exit ?_ | refine J_ret ?_ | refine J_region ?_  | refine J_drawn mixed (by kernel_rfl) ?_ | refine aApp_sl ?_ | refine aApp_old ?_ | refine J_c ?_ | refine Jc_true ?_ | refine Jc_false ?_ | exact Frz.f _ | (refine Kont.go (by assumption) ?_) | (simp (config := { maxSteps := 3000000 }) (disch := omega) only [go_sem, Nat.reduceEqDiff, ↓reduceIte, Nat.reduceAdd, Nat.reduceLT, Nat.reduceLeDiff, Int.reduceLT, Int.reduceLE, Int.reduceEq, Int.reduceNe, Int.reduceAdd, Int.reduceSub, Int.reduceMul, Int.reduceNeg, Int.reduceToNat, g1, g2, g3, g4, vl, rl, b2i_and, b2i_one, b2i_lt, hb1, hb2, ho, Nat.reduceMul, Nat.le_refl, true_and, and_true, and_self])) | refine And.intro (by omega) ?_ | refine And.intro (And.intro (by omega) (by omega)) ?_)
        simp only [ho, hb1, hb2, Bool.and_true, Bool.and_false, Bool.true_and, Bool.false_and, Bool.not_true, Bool.not_false, Bool.or_true, Bool.or_false, Bool.true_or, Bool.false_or] at hox
        first
          | rw [clsK_yes (by rw [hb1, hb2]; rfl)]
          | rw [clsK_no (R := R) (i := i) (k := k) (by rw [hb1, hb2]; rfl)]
        refine ⟨k + 1, by omega, by omega, weak_of ?_ ?_⟩ <;> (try simp (disch := omega) only [go_sem, Nat.reduceAdd, Nat.reduceLT, Nat.reduceEqDiff, hox]) <;> (try first | done | omega | rfl | exact ⟨rfl, rfl⟩ | trivial)
      · repeat (first | (with_reducible first | refine W_seq fun K hK => ?_ | refine J_block ?_ | refine J_skip ?_ | refine J_exit ?_ | refine J_ret ?_ | refine J_region ?_  | refine J_drawn mixed (by kernel_rfl) ?_ | refine aApp_sl ?_ | refine aApp_old ?_ | refine J_c ?_ | refine Jc_true ?_ | refine Jc_false ?_ | exact Frz.f _ | (refine Kont.go (by assumption) ?_) | (simp (config := { maxSteps := 3000000 }) (disch := omega) only [go_sem, Nat.reduceEqDiff, ↓reduceIte, Nat.reduceAdd, Nat.reduceLT, Nat.reduceLeDiff, Int.reduceLT, Int.reduceLE, Int.reduceEq, Int.reduceNe, Int.reduceAdd, Int.reduceSub, Int.reduceMul, Int.reduceNeg, Int.reduceToNat, g1, g2, g3, g4, vl, rl, b2i_and, b2i_one, b2i_lt, hb1, hb2, ho, Nat.reduceMul, Nat.le_refl, true_and, and_true, and_self])) | refine And.intro (by omega) ?_ | refine And.intro (And.intro (by omega) (by omega)) ?_)
        simp only [ho, hb1, hb2, Bool.and_true, Bool.and_false, Bool.true_and, Bool.false_and, Bool.not_true, Bool.not_false, Bool.or_true, Bool.or_false, Bool.true_or, Bool.false_or] at hox
        first
          | rw [clsK_yes (by rw [hb1, hb2]; rfl)]
          | rw [clsK_no (R := R) (i := i) (k := k) (by rw [hb1, hb2]; rfl)]
        refine ⟨k + 1, by omega, by omega, weak_of ?_ ?_⟩ <;> (try simp (disch := omega) only [go_sem, Nat.reduceAdd, Nat.reduceLT, Nat.reduceEqDiff, hox]) <;> (try first | done | omega | rfl | exact ⟨rfl, rfl⟩ | trivial)
      · repeat (first | (with_reducible first | refine W_seq fun K hK => ?_ | refine J_block ?_ | refine J_skip ?_ | refine J_exit ?_ | refine J_ret ?_ | refine J_region ?_  | refine J_drawn mixed (by kernel_rfl) ?_ | refine aApp_sl ?_ | refine aApp_old ?_ | refine J_c ?_ | refine Jc_true ?_ | refine Jc_false ?_ | exact Frz.f _ | (refine Kont.go (by assumption) ?_) | (simp (config := { maxSteps := 3000000 }) (disch := omega) only [go_sem, Nat.reduceEqDiff, ↓reduceIte, Nat.reduceAdd, Nat.reduceLT, Nat.reduceLeDiff, Int.reduceLT, Int.reduceLE, Int.reduceEq, Int.reduceNe, Int.reduceAdd, Int.reduceSub, Int.reduceMul, Int.reduceNeg, Int.reduceToNat, g1, g2, g3, g4, vl, rl, b2i_and, b2i_one, b2i_lt, hb1, hb2, ho, Nat.reduceMul, Nat.le_refl, true_and, and_true, and_self])) | refine And.intro (by omega) ?_ | refine And.intro (And.intro (by omega) (by omega)) ?_)
        simp only [ho, hb1, hb2, Bool.and_true, Bool.and_false, Bool.true_and, Bool.false_and, Bool.not_true, Bool.not_false, Bool.or_true, Bool.or_false, Bool.true_or, Bool.false_or] at hox
        first
          | rw [clsK_yes (by rw [hb1, hb2]; rfl)]
          | rw [clsK_no (R := R) (i := i) (k := k) (by rw [hb1, hb2]; rfl)]
        refine ⟨k + 1, by omega, by omega, weak_of ?_ ?_⟩ <;> (try simp (disch := omega) only [go_sem, Nat.reduceAdd, Nat.reduceLT, Nat.reduceEqDiff, hox]) <;> (try first | done | omega | rfl | exact ⟨rfl, rfl⟩ | trivial)
      · repeat (first | (with_reducible first | refine W_seq fun K hK => ?_ | refine J_block ?_ | refine J_skip ?_ | refine J_exit ?_ | refine J_ret ?_ | refine J_region ?_  | refine J_drawn mixed (by kernel_rfl) ?_ | refine aApp_sl ?_ | refine aApp_old ?_ | refine J_c ?_ | refine Jc_true ?_ | refine Jc_false ?_ | exact Frz.f _ | (refine Kont.go (by assumption) ?_) | (simp (config := { maxSteps := 3000000 }) (disch := omega) only [go_sem, Nat.reduceEqDiff, ↓reduceIte, Nat.reduceAdd, Nat.reduceLT, Nat.reduceLeDiff, Int.reduceLT, Int.reduceLE, Int.reduceEq, Int.reduceNe, Int.reduceAdd, Int.reduceSub, Int.reduceMul, Int.reduceNeg, Int.reduceToNat, g1, g2, g3, g4, vl, rl, b2i_and, b2i_one, b2i_lt, hb1, hb2, ho, Nat.reduceMul, Nat.le_refl, true_and, and_true, and_self])) | refine And.intro (by omega) ?_ | refine And.intro (And.intro (by omega) (by omega)) ?_)
        simp only [ho, hb1, hb2, Bool.and_true, Bool.and_false, Bool.true_and, Bool.false_and, Bool.not_true, Bool.not_false, Bool.or_true, Bool.or_false, Bool.true_or, Bool.false_or] at hox
        first
          | rw [clsK_yes (by rw [hb1, hb2]; rfl)]
          | rw [clsK_no (R := R) (i := i) (k := k) (by rw [hb1, hb2]; rfl)]
        refine ⟨k + 1, by omega, by omega, weak_of ?_ ?_⟩ <;> (try simp (disch := omega) only [go_sem, Nat.reduceAdd, Nat.reduceLT, Nat.reduceEqDiff, hox]) <;> (try first | done | omega | rfl | exact ⟨rfl, rfl⟩ | trivial)
      · repeat (first | (with_reducible first | refine W_seq fun K hK => ?_ | refine J_block ?_ | refine J_skip ?_ | refine J_exit ?_ | refine J_ret ?_ | refine J_region ?_  | refine J_drawn mixed (by kernel_rfl) ?_ | refine aApp_sl ?_ | refine aApp_old ?_ | refine J_c ?_ | refine Jc_true ?_ | refine Jc_false ?_ | exact Frz.f _ | (refine Kont.go (by assumption) ?_) | (simp (config := { maxSteps := 3000000 }) (disch := omega) only [go_sem, Nat.reduceEqDiff, ↓reduceIte, Nat.reduceAdd, Nat.reduceLT, Nat.reduceLeDiff, Int.reduceLT, Int.reduceLE, Int.reduceEq, Int.reduceNe, Int.reduceAdd, Int.reduceSub, Int.reduceMul, Int.reduceNeg, Int.reduceToNat, g1, g2, g3, g4, vl, rl, b2i_and, b2i_one, b2i_lt, hb1, hb2, ho, Nat.reduceMul, Nat.le_refl, true_and, and_true, and_self])) | refine And.intro (by omega) ?_ | refine And.intro (And.intro (by omega) (by omega)) ?_)
        simp only [ho, hb1, hb2, Bool.and_true, Bool.and_false, Bool.true_and, Bool.false_and, Bool.not_true, Bool.not_false, Bool.or_true, Bool.or_false, Bool.true_or, Bool.false_or] at hox
        first
          | rw [clsK_yes (by rw [hb1, hb2]; rfl)]
          | rw [clsK_no (R := R) (i := i) (k := k) (by rw [hb1, hb2]; rfl)]
        refine ⟨k + 1, by omega, by omega, weak_of ?_ ?_⟩ <;> (try simp (disch := omega) only [go_sem, Nat.reduceAdd, Nat.reduceLT, Nat.reduceEqDiff, hox]) <;> (try first | done | omega | rfl | exact ⟨rfl, rfl⟩ | trivial)
    · have he : k = n := by omega
      subst he
      obtain ⟨c0, cl, ecl⟩ := List.exists_cons_of_ne_nil (List.ne_nil_of_mem (cls_self hpre hil))
      have e1 : Ns (clsK R i k) = Ns (cls k R i) := rfl
      have e2 : (!opnK R i k) = clo k R i := rfl
      have hd : (Ns (cls k R i))[0]? = some (I (c0 : Int)) := by rw [ecl]; rfl
      have hlp : 0 < (Ns (cls k R i)).length := by rw [ecl]; simp [Ns]
      have hlm : (Ns (cls k R i)).length ≤ 6 := by rw [← e1]; exact Nat.le_trans clsK_len hn6
      have hrl := repF_len (n := k) (R := R) (x := i)
      have hsl := shutF_len (n := k) (R := R) (x := i)
      rw [e1]
      refine J_freeze (j := 8) rfl rfl ?_
      have hri : isRep k R i = decide (c0 = i) := by unfold isRep; rw [ecl]; show (some c0 == some i) = _; by_cases e : c0 = i <;> simp [e]
      by_cases e : c0 = i
      · have hy : isRep k R i = true := by rw [hri]; exact decide_eq_true e
        repeat (first | (with_reducible first | refine W_seq fun K hK => ?_ | refine J_block ?_ | refine J_skip ?_ | refine J_exit ?_ | refine J_ret ?_ | refine J_region ?_  | refine J_drawn mixed (by kernel_rfl) ?_ | refine aApp_sl ?_ | refine aApp_old ?_ | refine J_c ?_ | refine Jc_true ?_ | refine Jc_false ?_ | exact Frz.f _ | (refine Kont.go (by assumption) ?_) | (simp (config := { maxSteps := 3000000 }) (disch := omega) only [go_sem, Nat.reduceEqDiff, ↓reduceIte, Nat.reduceAdd, Nat.reduceLT, Nat.reduceLeDiff, Int.reduceLT, Int.reduceLE, Int.reduceEq, Int.reduceNe, Int.reduceAdd, Int.reduceSub, Int.reduceMul, Int.reduceNeg, Int.reduceToNat, hd, hlp, e, e2, Int.natCast_inj])) | refine And.intro (by omega) ?_ | refine And.intro (And.intro (by omega) (by omega)) ?_)
        rw [repF_yes hy, shutF_yes hy]
        refine ⟨i + 1, by omega, by omega, weak_of ?_ ?_⟩ <;> (try simp (disch := omega) only [go_sem, Nat.reduceAdd, Nat.reduceLT, Nat.reduceEqDiff]) <;> (try first | done | omega | rfl | exact ⟨rfl, rfl⟩ | trivial)
      · have hy : isRep k R i = false := by rw [hri]; exact decide_eq_false e
        repeat (first | (with_reducible first | refine W_seq fun K hK => ?_ | refine J_block ?_ | refine J_skip ?_ | refine J_exit ?_ | refine J_ret ?_ | refine J_region ?_  | refine J_drawn mixed (by kernel_rfl) ?_ | refine aApp_sl ?_ | refine aApp_old ?_ | refine J_c ?_ | refine Jc_true ?_ | refine Jc_false ?_ | exact Frz.f _ | (refine Kont.go (by assumption) ?_) | (simp (config := { maxSteps := 3000000 }) (disch := omega) only [go_sem, Nat.reduceEqDiff, ↓reduceIte, Nat.reduceAdd, Nat.reduceLT, Nat.reduceLeDiff, Int.reduceLT, Int.reduceLE, Int.reduceEq, Int.reduceNe, Int.reduceAdd, Int.reduceSub, Int.reduceMul, Int.reduceNeg, Int.reduceToNat, hd, hlp, e, Int.natCast_inj])) | refine And.intro (by omega) ?_ | refine And.intro (And.intro (by omega) (by omega)) ?_)
        rw [repF_no hy, shutF_no hy]
        refine ⟨i + 1, by omega, by omega, weak_of ?_ ?_⟩ <;> (try simp (disch := omega) only [go_sem, Nat.reduceAdd, Nat.reduceLT, Nat.reduceEqDiff]) <;> (try first | done | omega | rfl | exact ⟨rfl, rfl⟩ | trivial)
  · have he : i = n := by omega
    subst he
    repeat (first | (with_reducible first | refine W_seq fun K hK => ?_ | refine J_block ?_ | refine J_skip ?_ | refine J_exit ?_ | refine J_ret ?_ | refine J_region ?_  | refine J_drawn mixed (by kernel_rfl) ?_ | refine aApp_sl ?_ | refine aApp_old ?_ | refine J_c ?_ | refine Jc_true ?_ | refine Jc_false ?_ | exact Frz.f _ | (refine Kont.go (by assumption) ?_) | (simp (config := { maxSteps := 3000000 }) (disch := omega) only [go_sem, Nat.reduceEqDiff, ↓reduceIte, Nat.reduceAdd, Nat.reduceLT, Nat.reduceLeDiff, Int.reduceLT, Int.reduceLE, Int.reduceEq, Int.reduceNe, Int.reduceAdd, Int.reduceSub, Int.reduceMul, Int.reduceNeg, Int.reduceToNat])) | refine And.intro (by omega) ?_ | refine And.intro (And.intro (by omega) (by omega)) ?_)
    exact ⟨_, rfl, FrzL.cons (Frz.sl rfl) (FrzL.cons (Frz.sl rfl) (FrzL.cons (.f _) (FrzL.nil _)))⟩
end Go.Proofs.YtcgagiimlkjcpaaDoor
