/- Chains: a step, products, powers: walked. Conditions: numbers of 10^7 bytes each. -/
import Derived.Test.YtabmgfchkcmcmaaDoorZPowL
import Derived.Test.YtabmgfchkcmcmaaDoorZChk
import Derived.Test.YtabmgfchkcmcmaaDoorZDyn
set_option linter.unusedVariables false
set_option linter.unusedSimpArgs false
namespace Go.Proofs.YtabmgfchkcmcmaaDoor
open Go Go.RowKit
def tmR (p : List Rat) (m : List (List Rat)) : List Rat := (List.range m.length).map fun k => sumF (fun i => p.getD i 0 * at2 m i k) p.length
theorem tmR_len {p : List Rat} {m : List (List Rat)} : (tmR p m).length = m.length := by simp [tmR]
theorem sumF_fz {f : Nat → Rat} {s : Nat} : ∀ {n : Nat}, (∀ k, k < n → Fz (f k) s) → Fz (sumF f n) (8 + n * (s + 1)) := by
  intro n
  induction n with
  | zero => intro _; exact (Fz.int (n := 0) (by decide)).up (by omega)
  | succ n ih => intro h; exact ((ih fun k hk => h k (by omega)).add (h n (by omega))).up (by rw [Nat.add_mul]; omega)
theorem Row.getD {k : Nat} {l : List Rat} (h : Row k l) {i : Nat} (hi : i < l.length) : Fz (l.getD i 0) k := by rw [lget_lt l 0 hi]; exact h.get hi
structure SqM (k : Nat) (ys : List FV) (m : List (List Rat)) : Prop where
  fr : FrM k ys m
  sq : ∀ r ∈ m, List.length r = m.length
  le : m.length ≤ 6
section
variable {a b : Nat} {ps ys : List FV} {p : List Rat} {m : List (List Rat)} {i j : Nat}
theorem SqM.e2 (h : SqM b ys m) (hi : i < m.length) (hj : j < m.length) : at2 m i j = (m[i]'hi)[j]'(by rw [h.sq _ (List.getElem_mem hi)]; exact hj) := by unfold at2; rw [lget_lt m [] hi, lget_lt _ 0]
theorem SqM.at2 (h : SqM b ys m) (hi : i < m.length) (hj : j < m.length) : ∃ xs g n d, ys[i]? = some (.fz 3 xs) ∧ xs[j]? = some (frR g n d) ∧ IsFr (frR g n d) (at2 m i j) b := by
  obtain ⟨xs, h1, h2⟩ := h.fr.at hi
  obtain ⟨g, n, d, h3, h4⟩ := h2.at3 (i := j) (by rw [h.sq _ (List.getElem_mem hi)]; exact hj)
  exact ⟨xs, g, n, d, h1, h3, by rw [h.e2 hi hj]; exact h4⟩
theorem SqM.f2 (h : SqM b ys m) (h1 : 1 ≤ b) (hi : i < m.length) (hj : j < m.length) : Fz (Go.Proofs.YtabmgfchkcmcmaaDoor.at2 m i j) b := by
  obtain ⟨xs, g, n, d, _, _, h4⟩ := h.at2 hi hj
  exact h4.fz h1
theorem SqM.c {A : Mx} {n : Nat} (hn : n ≤ 6) (h : ∀ i k, i < n → k < n → Fz (A i k) b) : SqM b ((mxL n A).map frs) (mxL n A) where
  fr := FrM.c fun r hr => by
    obtain ⟨i, hi, rfl⟩ := List.mem_map.1 hr
    intro q hq
    obtain ⟨k, hk, rfl⟩ := List.mem_map.1 hq
    exact h i k (List.mem_range.1 hi) (List.mem_range.1 hk)
  sq := fun r hr => by rw [mxL_len]; exact mxL_row r hr
  le := by rw [mxL_len]; exact hn
theorem SqM.up (h : SqM a ys m) (hab : a ≤ b) : SqM b ys m := ⟨⟨h.fr.len, fun i r hr => by obtain ⟨xs, h1, h2⟩ := h.fr.get i r hr; exact ⟨xs, h1, h2.up hab⟩⟩, h.sq, h.le⟩
set_option maxRecDepth 100000 in
set_option maxHeartbeats 4000000 in
theorem times_w (hp : Frs a ps p) (hm : SqM b ys m) (h1 : 1 ≤ a) (h2 : 1 ≤ b) (ha : a ≤ 1000000000) (hb : b ≤ 1000000000) (hl : p.length = m.length) : Good Tryd.prog 147 [.fz 3 ps, .fz 1 ys] (frs (tmR p m)) := by
  have hr := hp.row h1
  have h6 := hm.le
  have hrep : List.replicate m.length (AV.f frN) = (fillL m.length 0 (fun k => fr (sumF (fun i => p.getD i 0 * at2 m i k) p.length)) frN).map .f := by rw [fill_zero, List.map_replicate]
  refine good_of Tryd.func147 rfl (by kernel_rfl) fun X hO => ?_; rw [Tryd.ntmps147, Tryd.results147]; simp only [ast0, List.map_cons, List.map_nil, List.length_cons, List.length_nil, Nat.reduceAdd, Nat.reduceSub, List.replicate_succ, List.replicate_zero, List.cons_append, List.nil_append]
  repeat (first | (with_reducible first | refine W_seq fun K hK => ?_ | refine J_block ?_ | refine J_skip ?_ | refine J_exit ?_ | refine J_ret ?_ | refine J_region ?_  | refine J_drawn mixed (by kernel_rfl) ?_ | refine aApp_sl ?_ | refine aApp_old ?_ | refine J_c ?_ | refine Jc_true ?_ | refine Jc_false ?_ | exact Frz.f _ | (refine Kont.go (by assumption) ?_) | (simp (config := { maxSteps := 3000000 }) (disch := omega) only [go_sem, Nat.reduceEqDiff, ↓reduceIte, Nat.reduceAdd, Nat.reduceLT, Nat.reduceLeDiff, Int.reduceLT, Int.reduceLE, Int.reduceEq, Int.reduceNe, Int.reduceAdd, Int.reduceSub, Int.reduceMul, Int.reduceNeg, Int.reduceToNat, hm.fr.len, hrep])) | refine call_f (of_good (by omega) (by omega)) rfl ?_ | refine callQ_f (of_good (by omega) (by omega)) rfl ?_ | refine call_f (add_w (by assumption) (by assumption) (by omega) (by omega)) rfl ?_ | refine callQ_f (add_w (by assumption) (by assumption) (by omega) (by omega)) rfl ?_ | refine call_f (mul_w (by assumption) (by assumption) (by omega) (by omega)) rfl ?_ | refine callQ_f (mul_w (by assumption) (by assumption) (by omega) (by omega)) rfl ?_ | refine And.intro (by omega) ?_ | refine And.intro (And.intro (by omega) (by omega)) ?_)
  refine W_loop [6, 7, 8, 14, 15, 16, 17, 18, 19, 20, 21, 22, 23, 24, 25, 26, 27, 28, 29, 30, 31, 32, 33, 34, 35, 36, 37, 38, 39, 40, 41, 42, 43, 44, 45, 46] (fun x : Nat => [(14, .f (I x))]) (fun x : Nat => [some ⟨55, 3, (fillL m.length x (fun k => fr (sumF (fun i => p.getD i 0 * at2 m i k) p.length)) frN).map .f⟩]) (fun x : Nat => x ≤ m.length) (fun x : Nat => m.length - x) (0) (Nat.zero_le _) (by refine weak_of ?_ ?_ <;> simp (disch := omega) only [go_sem, Nat.reduceAdd, Nat.reduceLT, Nat.reduceEqDiff] <;> first | rfl | exact ⟨rfl, rfl⟩ | exact Or.inl rfl | exact ⟨Or.inl rfl, Or.inl rfl⟩ | trivial | assumption | omega | (symm; assumption) | ((repeat' apply And.intro) <;> first | rfl | omega | trivial | assumption)) ?_
  rintro k hk
  simp only [go_sem, Nat.reduceAdd, Nat.reduceLT, Nat.reduceEqDiff]
  repeat (first | (with_reducible first | refine W_seq fun K hK => ?_ | refine J_block ?_ | refine J_skip ?_ | refine J_exit ?_ | refine J_ret ?_ | refine J_region ?_  | refine J_drawn mixed (by kernel_rfl) ?_ | refine aApp_sl ?_ | refine aApp_old ?_ | refine J_c ?_ | refine Jc_true ?_ | refine Jc_false ?_ | exact Frz.f _ | (refine Kont.go (by assumption) ?_) | (simp (config := { maxSteps := 3000000 }) (disch := omega) only [go_sem, Nat.reduceEqDiff, ↓reduceIte, Nat.reduceAdd, Nat.reduceLT, Nat.reduceLeDiff, Int.reduceLT, Int.reduceLE, Int.reduceEq, Int.reduceNe, Int.reduceAdd, Int.reduceSub, Int.reduceMul, Int.reduceNeg, Int.reduceToNat])) | refine call_f (of_good (by omega) (by omega)) rfl ?_ | refine callQ_f (of_good (by omega) (by omega)) rfl ?_ | refine call_f (add_w (by assumption) (by assumption) (by omega) (by omega)) rfl ?_ | refine callQ_f (add_w (by assumption) (by assumption) (by omega) (by omega)) rfl ?_ | refine call_f (mul_w (by assumption) (by assumption) (by omega) (by omega)) rfl ?_ | refine callQ_f (mul_w (by assumption) (by assumption) (by omega) (by omega)) rfl ?_ | refine And.intro (by omega) ?_ | refine And.intro (And.intro (by omega) (by omega)) ?_)
  refine Jc_if (fun hkl => ?_) (fun hkl => ?_) <;> try simp only [decide_eq_true_eq, decide_eq_false_iff_not, Bool.not_eq_true', Bool.not_eq_false', Bool.not_true, Bool.not_false, Int.ofNat_lt, Int.ofNat_le, Int.natCast_inj, Classical.not_not] at hkl
  · have hgetL : ∀ y, (((fillL m.length k (fun k => fr (sumF (fun i => p.getD i 0 * at2 m i k) p.length)) frN).map AV.f).set k y)[k]? = some y := fun y => List.getElem?_set_self (by simp [fill_len, hkl])
    have z0 : fr ((0 : Int) : Rat) = fr (sumF (fun i => p.getD i 0 * at2 m i k) 0) := rfl
    repeat (first | (with_reducible first | refine W_seq fun K hK => ?_ | refine J_block ?_ | refine J_skip ?_ | refine J_exit ?_ | refine J_ret ?_ | refine J_region ?_  | refine J_drawn mixed (by kernel_rfl) ?_ | refine aApp_sl ?_ | refine aApp_old ?_ | refine J_c ?_ | refine Jc_true ?_ | refine Jc_false ?_ | exact Frz.f _ | (refine Kont.go (by assumption) ?_) | (simp (config := { maxSteps := 3000000 }) (disch := omega) only [go_sem, Nat.reduceEqDiff, ↓reduceIte, Nat.reduceAdd, Nat.reduceLT, Nat.reduceLeDiff, Int.reduceLT, Int.reduceLE, Int.reduceEq, Int.reduceNe, Int.reduceAdd, Int.reduceSub, Int.reduceMul, Int.reduceNeg, Int.reduceToNat, fillA_get hkl, hkl, hp.len, z0])) | refine call_f (of_good (by omega) (by omega)) rfl ?_ | refine callQ_f (of_good (by omega) (by omega)) rfl ?_ | refine call_f (add_w (by assumption) (by assumption) (by omega) (by omega)) rfl ?_ | refine callQ_f (add_w (by assumption) (by assumption) (by omega) (by omega)) rfl ?_ | refine call_f (mul_w (by assumption) (by assumption) (by omega) (by omega)) rfl ?_ | refine callQ_f (mul_w (by assumption) (by assumption) (by omega) (by omega)) rfl ?_ | refine And.intro (by omega) ?_ | refine And.intro (And.intro (by omega) (by omega)) ?_)
    refine W_loop [7, 8, 23, 24, 25, 26, 27, 28, 29, 30, 31, 32, 33, 34, 35, 36, 37, 38, 39, 40, 41, 42, 43, 44, 45] (fun x : Nat => [(23, .f (I x))]) (fun x : Nat => [some ⟨55, 3, ((fillL m.length k (fun k => fr (sumF (fun i => p.getD i 0 * at2 m i k) p.length)) frN).map .f).set k (.f (fr (sumF (fun i => p.getD i 0 * at2 m i k) x)))⟩]) (fun x : Nat => x ≤ p.length) (fun x : Nat => p.length - x) (0) (Nat.zero_le _) (by refine weak_of ?_ ?_ <;> simp (disch := omega) only [go_sem, Nat.reduceAdd, Nat.reduceLT, Nat.reduceEqDiff] <;> first | rfl | exact ⟨rfl, rfl⟩ | exact Or.inl rfl | exact ⟨Or.inl rfl, Or.inl rfl⟩ | trivial | assumption | omega | (symm; assumption) | ((repeat' apply And.intro) <;> first | rfl | omega | trivial | assumption)) ?_
    rintro i hi
    simp only [go_sem, Nat.reduceAdd, Nat.reduceLT, Nat.reduceEqDiff]
    repeat (first | (with_reducible first | refine W_seq fun K hK => ?_ | refine J_block ?_ | refine J_skip ?_ | refine J_exit ?_ | refine J_ret ?_ | refine J_region ?_  | refine J_drawn mixed (by kernel_rfl) ?_ | refine aApp_sl ?_ | refine aApp_old ?_ | refine J_c ?_ | refine Jc_true ?_ | refine Jc_false ?_ | exact Frz.f _ | (refine Kont.go (by assumption) ?_) | (simp (config := { maxSteps := 3000000 }) (disch := omega) only [go_sem, Nat.reduceEqDiff, ↓reduceIte, Nat.reduceAdd, Nat.reduceLT, Nat.reduceLeDiff, Int.reduceLT, Int.reduceLE, Int.reduceEq, Int.reduceNe, Int.reduceAdd, Int.reduceSub, Int.reduceMul, Int.reduceNeg, Int.reduceToNat])) | refine call_f (of_good (by omega) (by omega)) rfl ?_ | refine callQ_f (of_good (by omega) (by omega)) rfl ?_ | refine call_f (add_w (by assumption) (by assumption) (by omega) (by omega)) rfl ?_ | refine callQ_f (add_w (by assumption) (by assumption) (by omega) (by omega)) rfl ?_ | refine call_f (mul_w (by assumption) (by assumption) (by omega) (by omega)) rfl ?_ | refine callQ_f (mul_w (by assumption) (by assumption) (by omega) (by omega)) rfl ?_ | refine And.intro (by omega) ?_ | refine And.intro (And.intro (by omega) (by omega)) ?_)
    refine Jc_if (fun hil => ?_) (fun hil => ?_) <;> try simp only [decide_eq_true_eq, decide_eq_false_iff_not, Bool.not_eq_true', Bool.not_eq_false', Bool.not_true, Bool.not_false, Int.ofNat_lt, Int.ofNat_le, Int.natCast_inj, Classical.not_not] at hil
    · obtain ⟨g1, n1, d1, x1, f1⟩ := hp.at3 hil
      rw [← lget_lt p 0 hil] at f1
      obtain ⟨xs, g2, n2, d2, y2, x2, f2⟩ := hm.at2 (i := i) (j := k) (by omega) hkl
      have fs := sumF_fz (f := fun i => p.getD i 0 * at2 m i k) (n := i) (s := a + b) fun q hq => (hr.getD (by omega)).mul (hm.f2 h2 (by omega) hkl)
      have so := Nat.mul_le_mul_right (a + b + 1) (show i ≤ 6 by omega)
      have c1 := IsFr.c fs
      have c2 := IsFr.c ((f1.fz h1).mul (f2.fz h2))
      have en : sumF (fun i => p.getD i 0 * at2 m i k) i + p.getD i 0 * at2 m i k = sumF (fun i => p.getD i 0 * at2 m i k) (i + 1) := rfl
      repeat (first | (with_reducible first | refine W_seq fun K hK => ?_ | refine J_block ?_ | refine J_skip ?_ | refine J_exit ?_ | refine J_ret ?_ | refine J_region ?_  | refine J_drawn mixed (by kernel_rfl) ?_ | refine aApp_sl ?_ | refine aApp_old ?_ | refine J_c ?_ | refine Jc_true ?_ | refine Jc_false ?_ | exact Frz.f _ | (refine Kont.go (by assumption) ?_) | (simp (config := { maxSteps := 3000000 }) (disch := omega) only [go_sem, Nat.reduceEqDiff, ↓reduceIte, Nat.reduceAdd, Nat.reduceLT, Nat.reduceLeDiff, Int.reduceLT, Int.reduceLE, Int.reduceEq, Int.reduceNe, Int.reduceAdd, Int.reduceSub, Int.reduceMul, Int.reduceNeg, Int.reduceToNat, x1, y2, x2, hgetL, List.set_set, hkl, en, fill_len])) | refine call_f (of_good (by omega) (by omega)) rfl ?_ | refine callQ_f (of_good (by omega) (by omega)) rfl ?_ | refine call_f (add_w (by assumption) (by assumption) (by omega) (by omega)) rfl ?_ | refine callQ_f (add_w (by assumption) (by assumption) (by omega) (by omega)) rfl ?_ | refine call_f (mul_w (by assumption) (by assumption) (by omega) (by omega)) rfl ?_ | refine callQ_f (mul_w (by assumption) (by assumption) (by omega) (by omega)) rfl ?_ | refine And.intro (by omega) ?_ | refine And.intro (And.intro (by omega) (by omega)) ?_)
      refine ⟨i + 1, by omega, by omega, weak_of ?_ ?_⟩ <;> (try simp (disch := omega) only [go_sem, Nat.reduceAdd, Nat.reduceLT, Nat.reduceEqDiff]) <;> (try first | done | omega | rfl | exact ⟨rfl, rfl⟩ | trivial)
    · have he : i = p.length := by omega
      subst he
      have hset := fillA_set (f := fun k => fr (sumF (fun i => p.getD i 0 * at2 m i k) p.length)) (z := frN) hkl rfl
      repeat (first | (with_reducible first | refine W_seq fun K hK => ?_ | refine J_block ?_ | refine J_skip ?_ | refine J_exit ?_ | refine J_ret ?_ | refine J_region ?_  | refine J_drawn mixed (by kernel_rfl) ?_ | refine aApp_sl ?_ | refine aApp_old ?_ | refine J_c ?_ | refine Jc_true ?_ | refine Jc_false ?_ | exact Frz.f _ | (refine Kont.go (by assumption) ?_) | (simp (config := { maxSteps := 3000000 }) (disch := omega) only [go_sem, Nat.reduceEqDiff, ↓reduceIte, Nat.reduceAdd, Nat.reduceLT, Nat.reduceLeDiff, Int.reduceLT, Int.reduceLE, Int.reduceEq, Int.reduceNe, Int.reduceAdd, Int.reduceSub, Int.reduceMul, Int.reduceNeg, Int.reduceToNat, hset])) | refine call_f (of_good (by omega) (by omega)) rfl ?_ | refine callQ_f (of_good (by omega) (by omega)) rfl ?_ | refine call_f (add_w (by assumption) (by assumption) (by omega) (by omega)) rfl ?_ | refine callQ_f (add_w (by assumption) (by assumption) (by omega) (by omega)) rfl ?_ | refine call_f (mul_w (by assumption) (by assumption) (by omega) (by omega)) rfl ?_ | refine callQ_f (mul_w (by assumption) (by assumption) (by omega) (by omega)) rfl ?_ | refine And.intro (by omega) ?_ | refine And.intro (And.intro (by omega) (by omega)) ?_)
      refine ⟨k + 1, by omega, by omega, weak_of ?_ ?_⟩ <;> (try simp (disch := omega) only [go_sem, Nat.reduceAdd, Nat.reduceLT, Nat.reduceEqDiff]) <;> (try first | done | omega | rfl | exact ⟨rfl, rfl⟩ | trivial)
  · have he : k = m.length := by omega
    subst he
    have hfa : fillL m.length m.length (fun k => fr (sumF (fun i => p.getD i 0 * at2 m i k) p.length)) frN = (tmR p m).map fr := by rw [fill_all, tmR, List.map_map]; rfl
    repeat (first | (with_reducible first | refine W_seq fun K hK => ?_ | refine J_block ?_ | refine J_skip ?_ | refine J_exit ?_ | refine J_ret ?_ | refine J_region ?_  | refine J_drawn mixed (by kernel_rfl) ?_ | refine aApp_sl ?_ | refine aApp_old ?_ | refine J_c ?_ | refine Jc_true ?_ | refine Jc_false ?_ | exact Frz.f _ | (refine Kont.go (by assumption) ?_) | (simp (config := { maxSteps := 3000000 }) (disch := omega) only [go_sem, Nat.reduceEqDiff, ↓reduceIte, Nat.reduceAdd, Nat.reduceLT, Nat.reduceLeDiff, Int.reduceLT, Int.reduceLE, Int.reduceEq, Int.reduceNe, Int.reduceAdd, Int.reduceSub, Int.reduceMul, Int.reduceNeg, Int.reduceToNat, hfa])) | refine call_f (of_good (by omega) (by omega)) rfl ?_ | refine callQ_f (of_good (by omega) (by omega)) rfl ?_ | refine call_f (add_w (by assumption) (by assumption) (by omega) (by omega)) rfl ?_ | refine callQ_f (add_w (by assumption) (by assumption) (by omega) (by omega)) rfl ?_ | refine call_f (mul_w (by assumption) (by assumption) (by omega) (by omega)) rfl ?_ | refine callQ_f (mul_w (by assumption) (by assumption) (by omega) (by omega)) rfl ?_ | refine And.intro (by omega) ?_ | refine And.intro (And.intro (by omega) (by omega)) ?_)
    exact Frz.own0 rfl (by rw [List.length_map, tmR_len])
def stpR (p : List Rat) (m : List (List Rat)) : List Rat := if chkM m = 0 ∧ p.length = m.length then tmR p m else []
def stpE (p : List Rat) (m : List (List Rat)) : Int := if chkM m ≠ 0 then chkM m else if p.length ≠ m.length then 8 else 0
theorem chk_sq (hm : FrM b ys m) (h : chkM m = 0) : SqM b ys m ∧ 1 ≤ m.length ∧ ∀ r ∈ m, chancesB r = true := by
  unfold chkM at h
  split at h
  · cases h
  unfold sqM at h
  split at h
  · cases h
  split at h
  · cases h
  rename_i a b c
  exact ⟨⟨hm, Classical.not_not.1 b, by omega⟩, by omega, Classical.not_not.1 c⟩
set_option maxRecDepth 100000 in
theorem step_w (hp : Frs a ps p) (hm : FrM b ys m) (h1 : 1 ≤ a) (h2 : 1 ≤ b) (ha : a ≤ 10000000) (hb : b ≤ 10000000) (hpx : p.length ≤ 140737488355328) (hmx : m.length ≤ 140737488355328) : Good Tryd.prog 69 [.fz 3 ps, .fz 1 ys] (.tup [frs (stpR p m), I (stpE p m)]) := by
  have hc := check_w hm h2 hb hmx
  by_cases h0 : chkM m = 0
  case neg =>
    rw [show stpR p m = [] by unfold stpR; rw [if_neg fun h => h0 h.1], show stpE p m = chkM m by unfold stpE; rw [if_pos h0]]
    refine good_of Tryd.func69 rfl (by kernel_rfl) fun X hO => ?_; rw [Tryd.ntmps69, Tryd.results69]; simp only [ast0, List.map_cons, List.map_nil, List.length_cons, List.length_nil, Nat.reduceAdd, Nat.reduceSub, List.replicate_succ, List.replicate_zero, List.cons_append, List.nil_append]
    repeat (first | (with_reducible first | refine W_seq fun K hK => ?_ | refine J_block ?_ | refine J_skip ?_ | refine J_exit ?_ | refine J_ret ?_ | refine J_region ?_  | refine J_drawn mixed (by kernel_rfl) ?_ | refine aApp_sl ?_ | refine aApp_old ?_ | refine J_c ?_ | refine Jc_true ?_ | refine Jc_false ?_ | exact Frz.f _ | (refine Kont.go (by assumption) ?_) | (simp (config := { maxSteps := 3000000 }) (disch := omega) only [go_sem, Nat.reduceEqDiff, ↓reduceIte, Nat.reduceAdd, Nat.reduceLT, Nat.reduceLeDiff, Int.reduceLT, Int.reduceLE, Int.reduceEq, Int.reduceNe, Int.reduceAdd, Int.reduceSub, Int.reduceMul, Int.reduceNeg, Int.reduceToNat])) | refine And.intro (by omega) ?_ | refine And.intro (And.intro (by omega) (by omega)) ?_)
    refine call_f hc rfl ?_
    repeat (first | (with_reducible first | refine W_seq fun K hK => ?_ | refine J_block ?_ | refine J_skip ?_ | refine J_exit ?_ | refine J_ret ?_ | refine J_region ?_  | refine J_drawn mixed (by kernel_rfl) ?_ | refine aApp_sl ?_ | refine aApp_old ?_ | refine J_c ?_ | refine Jc_true ?_ | refine Jc_false ?_ | exact Frz.f _ | (refine Kont.go (by assumption) ?_) | (simp (config := { maxSteps := 3000000 }) (disch := omega) only [go_sem, Nat.reduceEqDiff, ↓reduceIte, Nat.reduceAdd, Nat.reduceLT, Nat.reduceLeDiff, Int.reduceLT, Int.reduceLE, Int.reduceEq, Int.reduceNe, Int.reduceAdd, Int.reduceSub, Int.reduceMul, Int.reduceNeg, Int.reduceToNat, h0])) | refine And.intro (by omega) ?_ | refine And.intro (And.intro (by omega) (by omega)) ?_)
    exact ⟨_, rfl, FrzL.cons (.nil _) (FrzL.cons (.f _) (FrzL.nil _))⟩
  rw [h0] at hc
  by_cases hl : p.length = m.length
  case neg =>
    rw [show stpR p m = [] by unfold stpR; rw [if_neg fun h => hl h.2], show stpE p m = 8 by unfold stpE; rw [if_neg (by omega), if_pos hl]]
    refine good_of Tryd.func69 rfl (by kernel_rfl) fun X hO => ?_; rw [Tryd.ntmps69, Tryd.results69]; simp only [ast0, List.map_cons, List.map_nil, List.length_cons, List.length_nil, Nat.reduceAdd, Nat.reduceSub, List.replicate_succ, List.replicate_zero, List.cons_append, List.nil_append]
    repeat (first | (with_reducible first | refine W_seq fun K hK => ?_ | refine J_block ?_ | refine J_skip ?_ | refine J_exit ?_ | refine J_ret ?_ | refine J_region ?_  | refine J_drawn mixed (by kernel_rfl) ?_ | refine aApp_sl ?_ | refine aApp_old ?_ | refine J_c ?_ | refine Jc_true ?_ | refine Jc_false ?_ | exact Frz.f _ | (refine Kont.go (by assumption) ?_) | (simp (config := { maxSteps := 3000000 }) (disch := omega) only [go_sem, Nat.reduceEqDiff, ↓reduceIte, Nat.reduceAdd, Nat.reduceLT, Nat.reduceLeDiff, Int.reduceLT, Int.reduceLE, Int.reduceEq, Int.reduceNe, Int.reduceAdd, Int.reduceSub, Int.reduceMul, Int.reduceNeg, Int.reduceToNat])) | refine And.intro (by omega) ?_ | refine And.intro (And.intro (by omega) (by omega)) ?_)
    refine call_f hc rfl ?_
    repeat (first | (with_reducible first | refine W_seq fun K hK => ?_ | refine J_block ?_ | refine J_skip ?_ | refine J_exit ?_ | refine J_ret ?_ | refine J_region ?_  | refine J_drawn mixed (by kernel_rfl) ?_ | refine aApp_sl ?_ | refine aApp_old ?_ | refine J_c ?_ | refine Jc_true ?_ | refine Jc_false ?_ | exact Frz.f _ | (refine Kont.go (by assumption) ?_) | (simp (config := { maxSteps := 3000000 }) (disch := omega) only [go_sem, Nat.reduceEqDiff, ↓reduceIte, Nat.reduceAdd, Nat.reduceLT, Nat.reduceLeDiff, Int.reduceLT, Int.reduceLE, Int.reduceEq, Int.reduceNe, Int.reduceAdd, Int.reduceSub, Int.reduceMul, Int.reduceNeg, Int.reduceToNat, hp.len, hm.len, hl, Int.natCast_inj])) | refine And.intro (by omega) ?_ | refine And.intro (And.intro (by omega) (by omega)) ?_)
    exact ⟨_, rfl, FrzL.cons (.nil _) (FrzL.cons (.f _) (FrzL.nil _))⟩
  rw [show stpR p m = tmR p m by unfold stpR; rw [if_pos ⟨h0, hl⟩], show stpE p m = 0 by unfold stpE; rw [if_neg (by omega), if_neg (by omega)]]
  refine good_of Tryd.func69 rfl (by kernel_rfl) fun X hO => ?_; rw [Tryd.ntmps69, Tryd.results69]; simp only [ast0, List.map_cons, List.map_nil, List.length_cons, List.length_nil, Nat.reduceAdd, Nat.reduceSub, List.replicate_succ, List.replicate_zero, List.cons_append, List.nil_append]
  repeat (first | (with_reducible first | refine W_seq fun K hK => ?_ | refine J_block ?_ | refine J_skip ?_ | refine J_exit ?_ | refine J_ret ?_ | refine J_region ?_  | refine J_drawn mixed (by kernel_rfl) ?_ | refine aApp_sl ?_ | refine aApp_old ?_ | refine J_c ?_ | refine Jc_true ?_ | refine Jc_false ?_ | exact Frz.f _ | (refine Kont.go (by assumption) ?_) | (simp (config := { maxSteps := 3000000 }) (disch := omega) only [go_sem, Nat.reduceEqDiff, ↓reduceIte, Nat.reduceAdd, Nat.reduceLT, Nat.reduceLeDiff, Int.reduceLT, Int.reduceLE, Int.reduceEq, Int.reduceNe, Int.reduceAdd, Int.reduceSub, Int.reduceMul, Int.reduceNeg, Int.reduceToNat])) | refine And.intro (by omega) ?_ | refine And.intro (And.intro (by omega) (by omega)) ?_)
  refine call_f hc rfl ?_
  repeat (first | (with_reducible first | refine W_seq fun K hK => ?_ | refine J_block ?_ | refine J_skip ?_ | refine J_exit ?_ | refine J_ret ?_ | refine J_region ?_  | refine J_drawn mixed (by kernel_rfl) ?_ | refine aApp_sl ?_ | refine aApp_old ?_ | refine J_c ?_ | refine Jc_true ?_ | refine Jc_false ?_ | exact Frz.f _ | (refine Kont.go (by assumption) ?_) | (simp (config := { maxSteps := 3000000 }) (disch := omega) only [go_sem, Nat.reduceEqDiff, ↓reduceIte, Nat.reduceAdd, Nat.reduceLT, Nat.reduceLeDiff, Int.reduceLT, Int.reduceLE, Int.reduceEq, Int.reduceNe, Int.reduceAdd, Int.reduceSub, Int.reduceMul, Int.reduceNeg, Int.reduceToNat, hp.len, hm.len, hl])) | refine And.intro (by omega) ?_ | refine And.intro (And.intro (by omega) (by omega)) ?_)
  refine call_f (times_w hp (chk_sq hm h0).1 h1 h2 (by omega) (by omega) hl) rfl ?_
  repeat (first | (with_reducible first | refine W_seq fun K hK => ?_ | refine J_block ?_ | refine J_skip ?_ | refine J_exit ?_ | refine J_ret ?_ | refine J_region ?_  | refine J_drawn mixed (by kernel_rfl) ?_ | refine aApp_sl ?_ | refine aApp_old ?_ | refine J_c ?_ | refine Jc_true ?_ | refine Jc_false ?_ | exact Frz.f _ | (refine Kont.go (by assumption) ?_) | (simp (config := { maxSteps := 3000000 }) (disch := omega) only [go_sem, Nat.reduceEqDiff, ↓reduceIte, Nat.reduceAdd, Nat.reduceLT, Nat.reduceLeDiff, Int.reduceLT, Int.reduceLE, Int.reduceEq, Int.reduceNe, Int.reduceAdd, Int.reduceSub, Int.reduceMul, Int.reduceNeg, Int.reduceToNat])) | refine And.intro (by omega) ?_ | refine And.intro (And.intro (by omega) (by omega)) ?_)
  exact ⟨_, rfl, FrzL.fs [_, _]⟩
end
end Go.Proofs.YtabmgfchkcmcmaaDoor
