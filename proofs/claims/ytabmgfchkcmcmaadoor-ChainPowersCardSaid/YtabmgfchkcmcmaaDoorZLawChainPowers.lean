/- The law ChainPowers: it returns true. Condition: what slices may hold. -/
import Derived.Test.YtabmgfchkcmcmaaDoorZPowT
import Derived.Test.YtabmgfchkcmcmaaDoorZBfsL
import Derived.Test.YtabmgfchkcmcmaaDoorZSameW
import Derived.Test.YtabmgfchkcmcmaaDoorZRoA
import Derived.Test.YtabmgfchkcmcmaaDoorZMatW
set_option linter.unusedVariables false
set_option linter.unusedSimpArgs false
namespace Go.Proofs.YtabmgfchkcmcmaaDoor
open Go Go.RowKit
set_option maxRecDepth 100000 in
set_option maxHeartbeats 8000000 in
theorem chainPowers_good (w : List Int) (k a b : Int) (hw : OkIs w) (hk : OkI k) (ha : OkI a) (hb : OkI b) :
    Good Tryd.prog 12 [ints w, I k, I a, I b] (Bo true) := by
  refine good_of Tryd.func12 rfl (by kernel_rfl) fun X hO => ?_; rw [Tryd.ntmps12, Tryd.results12]; simp only [ast0, List.map_cons, List.map_nil, List.length_cons, List.length_nil, Nat.reduceAdd, Nat.reduceSub, List.replicate_succ, List.replicate_zero, List.cons_append, List.nil_append]
  have hwl := hw.1
  repeat (first | (with_reducible first | refine W_seq fun K hK => ?_ | refine J_block ?_ | refine J_skip ?_ | refine J_exit ?_ | refine J_ret ?_ | refine J_region ?_  | refine J_drawn mixed (by kernel_rfl) ?_ | refine aApp_sl ?_ | refine aApp_old ?_ | refine J_c ?_ | refine Jc_true ?_ | refine Jc_false ?_ | exact Frz.f _ | (refine Kont.go (by assumption) ?_) | (simp (config := { maxSteps := 3000000 }) (disch := omega) only [go_sem, Nat.reduceEqDiff, ↓reduceIte, Nat.reduceAdd, Nat.reduceLT, Nat.reduceLeDiff, Int.reduceLT, Int.reduceLE, Int.reduceEq, Int.reduceNe, Int.reduceAdd, Int.reduceSub, Int.reduceMul, Int.reduceNeg, Int.reduceToNat])) | refine call_f (pickI _ _ (by omega) (by omega) (by omega) (by omega)) rfl ?_ | refine callQ_f (pickI _ _ (by omega) (by omega) (by omega) (by omega)) rfl ?_ | refine And.intro (by omega) ?_ | refine And.intro (And.intro (by omega) (by omega)) ?_)
  refine Jc_if (fun hgt => ?_) (fun hgt => ?_) <;> try simp only [decide_eq_true_eq, decide_eq_false_iff_not, Bool.not_eq_true', Bool.not_eq_false', Bool.not_true, Bool.not_false, Int.ofNat_lt, Int.ofNat_le, Int.natCast_inj, Classical.not_not] at hgt
  · repeat (first | (with_reducible first | refine W_seq fun K hK => ?_ | refine J_block ?_ | refine J_skip ?_ | refine J_exit ?_ | refine J_ret ?_ | refine J_region ?_  | refine J_drawn mixed (by kernel_rfl) ?_ | refine aApp_sl ?_ | refine aApp_old ?_ | refine J_c ?_ | refine Jc_true ?_ | refine Jc_false ?_ | exact Frz.f _ | (refine Kont.go (by assumption) ?_) | (simp (config := { maxSteps := 3000000 }) (disch := omega) only [go_sem, Nat.reduceEqDiff, ↓reduceIte, Nat.reduceAdd, Nat.reduceLT, Nat.reduceLeDiff, Int.reduceLT, Int.reduceLE, Int.reduceEq, Int.reduceNe, Int.reduceAdd, Int.reduceSub, Int.reduceMul, Int.reduceNeg, Int.reduceToNat])) | refine call_f (pickI _ _ (by omega) (by omega) (by omega) (by omega)) rfl ?_ | refine callQ_f (pickI _ _ (by omega) (by omega) (by omega) (by omega)) rfl ?_ | refine And.intro (by omega) ?_ | refine And.intro (And.intro (by omega) (by omega)) ?_)
  have p1 := pick_good k 4 hk.1 hk.2 (by decide) (by decide)
  have p2 := pick_good a 4 ha.1 ha.2 (by decide) (by decide)
  have p3 := pick_good b 4 hb.1 hb.2 (by decide) (by decide)
  have q1 : pickN k 4 < 4 := pickN_lt _ (by decide)
  have q2 : pickN a 4 < 4 := pickN_lt _ (by decide)
  have q3 : pickN b 4 < 4 := pickN_lt _ (by decide)
  obtain ⟨k', hk'⟩ : ∃ k', k' = pickN k 4 := ⟨_, rfl⟩
  obtain ⟨a', ha'⟩ : ∃ a', a' = pickN a 4 := ⟨_, rfl⟩
  obtain ⟨b', hb'⟩ : ∃ b', b' = pickN b 4 := ⟨_, rfl⟩
  rw [← hk'] at p1 q1
  rw [← ha'] at p2 q2
  rw [← hb'] at p3 q3
  repeat (first | (with_reducible first | refine W_seq fun K hK => ?_ | refine J_block ?_ | refine J_skip ?_ | refine J_exit ?_ | refine J_ret ?_ | refine J_region ?_  | refine J_drawn mixed (by kernel_rfl) ?_ | refine aApp_sl ?_ | refine aApp_old ?_ | refine J_c ?_ | refine Jc_true ?_ | refine Jc_false ?_ | exact Frz.f _ | (refine Kont.go (by assumption) ?_) | (simp (config := { maxSteps := 3000000 }) (disch := omega) only [go_sem, Nat.reduceEqDiff, ↓reduceIte, Nat.reduceAdd, Nat.reduceLT, Nat.reduceLeDiff, Int.reduceLT, Int.reduceLE, Int.reduceEq, Int.reduceNe, Int.reduceAdd, Int.reduceSub, Int.reduceMul, Int.reduceNeg, Int.reduceToNat])) | refine call_f (pickI _ _ (by omega) (by omega) (by omega) (by omega)) rfl ?_ | refine callQ_f (pickI _ _ (by omega) (by omega) (by omega) (by omega)) rfl ?_ | refine And.intro (by omega) ?_ | refine And.intro (And.intro (by omega) (by omega)) ?_)
  refine call_f p1 rfl ?_
  repeat (first | (with_reducible first | refine W_seq fun K hK => ?_ | refine J_block ?_ | refine J_skip ?_ | refine J_exit ?_ | refine J_ret ?_ | refine J_region ?_  | refine J_drawn mixed (by kernel_rfl) ?_ | refine aApp_sl ?_ | refine aApp_old ?_ | refine J_c ?_ | refine Jc_true ?_ | refine Jc_false ?_ | exact Frz.f _ | (refine Kont.go (by assumption) ?_) | (simp (config := { maxSteps := 3000000 }) (disch := omega) only [go_sem, Nat.reduceEqDiff, ↓reduceIte, Nat.reduceAdd, Nat.reduceLT, Nat.reduceLeDiff, Int.reduceLT, Int.reduceLE, Int.reduceEq, Int.reduceNe, Int.reduceAdd, Int.reduceSub, Int.reduceMul, Int.reduceNeg, Int.reduceToNat])) | refine call_f (pickI _ _ (by omega) (by omega) (by omega) (by omega)) rfl ?_ | refine callQ_f (pickI _ _ (by omega) (by omega) (by omega) (by omega)) rfl ?_ | refine And.intro (by omega) ?_ | refine And.intro (And.intro (by omega) (by omega)) ?_)
  refine call_f p2 rfl ?_
  repeat (first | (with_reducible first | refine W_seq fun K hK => ?_ | refine J_block ?_ | refine J_skip ?_ | refine J_exit ?_ | refine J_ret ?_ | refine J_region ?_  | refine J_drawn mixed (by kernel_rfl) ?_ | refine aApp_sl ?_ | refine aApp_old ?_ | refine J_c ?_ | refine Jc_true ?_ | refine Jc_false ?_ | exact Frz.f _ | (refine Kont.go (by assumption) ?_) | (simp (config := { maxSteps := 3000000 }) (disch := omega) only [go_sem, Nat.reduceEqDiff, ↓reduceIte, Nat.reduceAdd, Nat.reduceLT, Nat.reduceLeDiff, Int.reduceLT, Int.reduceLE, Int.reduceEq, Int.reduceNe, Int.reduceAdd, Int.reduceSub, Int.reduceMul, Int.reduceNeg, Int.reduceToNat])) | refine call_f (pickI _ _ (by omega) (by omega) (by omega) (by omega)) rfl ?_ | refine callQ_f (pickI _ _ (by omega) (by omega) (by omega) (by omega)) rfl ?_ | refine And.intro (by omega) ?_ | refine And.intro (And.intro (by omega) (by omega)) ?_)
  refine call_f p3 rfl ?_
  repeat (first | (with_reducible first | refine W_seq fun K hK => ?_ | refine J_block ?_ | refine J_skip ?_ | refine J_exit ?_ | refine J_ret ?_ | refine J_region ?_  | refine J_drawn mixed (by kernel_rfl) ?_ | refine aApp_sl ?_ | refine aApp_old ?_ | refine J_c ?_ | refine Jc_true ?_ | refine Jc_false ?_ | exact Frz.f _ | (refine Kont.go (by assumption) ?_) | (simp (config := { maxSteps := 3000000 }) (disch := omega) only [go_sem, Nat.reduceEqDiff, ↓reduceIte, Nat.reduceAdd, Nat.reduceLT, Nat.reduceLeDiff, Int.reduceLT, Int.reduceLE, Int.reduceEq, Int.reduceNe, Int.reduceAdd, Int.reduceSub, Int.reduceMul, Int.reduceNeg, Int.reduceToNat])) | refine call_f (pickI _ _ (by omega) (by omega) (by omega) (by omega)) rfl ?_ | refine callQ_f (pickI _ _ (by omega) (by omega) (by omega) (by omega)) rfl ?_ | refine And.intro (by omega) ?_ | refine And.intro (And.intro (by omega) (by omega)) ?_)
  obtain ⟨n, hn⟩ : ∃ n, n = 1 + k' := ⟨_, rfl⟩
  have hn0 : (1 : Int) + (k' : Int) = (n : Int) := by omega
  have hM := matrixOf_w w n (fun x hx => hw.2 x hx) (by omega) (by omega) hwl
  rw [hn0]
  refine call_f hM rfl ?_
  obtain ⟨m, hm⟩ : ∃ m, m = matR w n n := ⟨_, rfl⟩
  have hlen : m.length = n := by rw [hm]; exact matR_len w n n
  have hchk : chkM m = 0 := by rw [hm]; exact matR_chk (by omega) (by omega)
  have hF : FrM 8 (m.map frs) m := FrM.c (by rw [hm]; exact matR_Row (by omega) (by omega))
  rw [← hm]
  have ha0 := power_w hF (by omega) (by omega) (by omega) (a' : Int) (by omega) (by omega)
  have hb0 := power_w hF (by omega) (by omega) (by omega) (b' : Int) (by omega) (by omega)
  have hc0 := power_w hF (by omega) (by omega) (by omega) ((a' : Int) + (b' : Int)) (by omega) (by omega)
  have eE : ∀ k : Nat, k ≤ 16 → pwE m (k : Int) = 0 := fun k hk => by unfold pwE; rw [if_neg (by omega), if_neg (by omega)]
  have eR : ∀ k : Nat, k ≤ 16 → pwR m (k : Int) = mxL n (powM n (at2 m) k) := fun k hk => by unfold pwR; rw [if_pos ⟨hchk, by omega, by omega⟩, hlen]; rfl
  have eab : (a' : Int) + (b' : Int) = ((a' + b' : Nat) : Int) := by omega
  rw [eE _ (by omega), eR _ (by omega)] at ha0 hb0
  rw [eab, eE _ (by omega), eR _ (by omega)] at hc0
  repeat (first | (with_reducible first | refine W_seq fun K hK => ?_ | refine J_block ?_ | refine J_skip ?_ | refine J_exit ?_ | refine J_ret ?_ | refine J_region ?_  | refine J_drawn mixed (by kernel_rfl) ?_ | refine aApp_sl ?_ | refine aApp_old ?_ | refine J_c ?_ | refine Jc_true ?_ | refine Jc_false ?_ | exact Frz.f _ | (refine Kont.go (by assumption) ?_) | (simp (config := { maxSteps := 3000000 }) (disch := omega) only [go_sem, Nat.reduceEqDiff, ↓reduceIte, Nat.reduceAdd, Nat.reduceLT, Nat.reduceLeDiff, Int.reduceLT, Int.reduceLE, Int.reduceEq, Int.reduceNe, Int.reduceAdd, Int.reduceSub, Int.reduceMul, Int.reduceNeg, Int.reduceToNat])) | refine call_f (pickI _ _ (by omega) (by omega) (by omega) (by omega)) rfl ?_ | refine callQ_f (pickI _ _ (by omega) (by omega) (by omega) (by omega)) rfl ?_ | refine And.intro (by omega) ?_ | refine And.intro (And.intro (by omega) (by omega)) ?_)
  refine call_f ha0 rfl ?_
  repeat (first | (with_reducible first | refine W_seq fun K hK => ?_ | refine J_block ?_ | refine J_skip ?_ | refine J_exit ?_ | refine J_ret ?_ | refine J_region ?_  | refine J_drawn mixed (by kernel_rfl) ?_ | refine aApp_sl ?_ | refine aApp_old ?_ | refine J_c ?_ | refine Jc_true ?_ | refine Jc_false ?_ | exact Frz.f _ | (refine Kont.go (by assumption) ?_) | (simp (config := { maxSteps := 3000000 }) (disch := omega) only [go_sem, Nat.reduceEqDiff, ↓reduceIte, Nat.reduceAdd, Nat.reduceLT, Nat.reduceLeDiff, Int.reduceLT, Int.reduceLE, Int.reduceEq, Int.reduceNe, Int.reduceAdd, Int.reduceSub, Int.reduceMul, Int.reduceNeg, Int.reduceToNat])) | refine call_f (pickI _ _ (by omega) (by omega) (by omega) (by omega)) rfl ?_ | refine callQ_f (pickI _ _ (by omega) (by omega) (by omega) (by omega)) rfl ?_ | refine And.intro (by omega) ?_ | refine And.intro (And.intro (by omega) (by omega)) ?_)
  refine call_f hb0 rfl ?_
  repeat (first | (with_reducible first | refine W_seq fun K hK => ?_ | refine J_block ?_ | refine J_skip ?_ | refine J_exit ?_ | refine J_ret ?_ | refine J_region ?_  | refine J_drawn mixed (by kernel_rfl) ?_ | refine aApp_sl ?_ | refine aApp_old ?_ | refine J_c ?_ | refine Jc_true ?_ | refine Jc_false ?_ | exact Frz.f _ | (refine Kont.go (by assumption) ?_) | (simp (config := { maxSteps := 3000000 }) (disch := omega) only [go_sem, Nat.reduceEqDiff, ↓reduceIte, Nat.reduceAdd, Nat.reduceLT, Nat.reduceLeDiff, Int.reduceLT, Int.reduceLE, Int.reduceEq, Int.reduceNe, Int.reduceAdd, Int.reduceSub, Int.reduceMul, Int.reduceNeg, Int.reduceToNat, eab])) | refine call_f (pickI _ _ (by omega) (by omega) (by omega) (by omega)) rfl ?_ | refine callQ_f (pickI _ _ (by omega) (by omega) (by omega) (by omega)) rfl ?_ | refine And.intro (by omega) ?_ | refine And.intro (And.intro (by omega) (by omega)) ?_)
  refine call_f hc0 rfl ?_
  have hxl : ∀ X : Mx, ((mxL n X).map frs).length = n := fun X => by simp [mxL]
  have hxg : ∀ (X : Mx) i, i < n → ((mxL n X).map frs)[i]? = some (frs ((List.range n).map (X i))) := fun X i hi => by simp [mxL, hi]
  obtain ⟨hsq, hn1, hch⟩ := chk_sq hF hchk
  have hn6 := hsq.le
  have hs : Sto n (at2 m) := sto_of hlen.symm (fun r hr => (hsq.sq r hr).trans hlen) hch
  rw [hlen] at hn1 hn6
  have hsz : ∀ d, d ≤ 6 → szQ 8 d ≤ 1000000 := by decide
  have hfz : ∀ d i k, i < n → k < n → Fz (powM n (at2 m) d i k) (szQ 8 d) := pow_fz hn6 fun i k hi hk => hsq.f2 (by decide) (by omega) (by omega)
  have hchP : ∀ d, chkM (mxL n (powM n (at2 m) d)) = 0 := fun d => chk_mxL hn1 hn6 (sto_pow hs d)
  have hFP : ∀ d, FrM (szQ 8 d) ((mxL n (powM n (at2 m) d)).map frs) (mxL n (powM n (at2 m) d)) := fun d => FrM.c fun r hr => by
    obtain ⟨i, hi, rfl⟩ := List.mem_map.1 hr
    intro z hz
    obtain ⟨k, hk, rfl⟩ := List.mem_map.1 hz
    exact hfz d i k (List.mem_range.1 hi) (List.mem_range.1 hk)
  have h1sz : ∀ d, 1 ≤ szQ 8 d := fun d => by cases d with
    | zero => decide
    | succ d => show 1 ≤ 8 + _; omega
  have hlP : ∀ d, (mxL n (powM n (at2 m) d)).length = n := fun d => by simp [mxL]
  repeat (first | (with_reducible first | refine W_seq fun K hK => ?_ | refine J_block ?_ | refine J_skip ?_ | refine J_exit ?_ | refine J_ret ?_ | refine J_region ?_  | refine J_drawn mixed (by kernel_rfl) ?_ | refine aApp_sl ?_ | refine aApp_old ?_ | refine J_c ?_ | refine Jc_true ?_ | refine Jc_false ?_ | exact Frz.f _ | (refine Kont.go (by assumption) ?_) | (simp (config := { maxSteps := 3000000 }) (disch := omega) only [go_sem, Nat.reduceEqDiff, ↓reduceIte, Nat.reduceAdd, Nat.reduceLT, Nat.reduceLeDiff, Int.reduceLT, Int.reduceLE, Int.reduceEq, Int.reduceNe, Int.reduceAdd, Int.reduceSub, Int.reduceMul, Int.reduceNeg, Int.reduceToNat, hxl, Nat.reduceMul, Nat.le_refl, true_and, and_true, and_self])) | refine call_f (pickI _ _ (by omega) (by omega) (by omega) (by omega)) rfl ?_ | refine callQ_f (pickI _ _ (by omega) (by omega) (by omega) (by omega)) rfl ?_ | refine And.intro (by omega) ?_ | refine And.intro (And.intro (by omega) (by omega)) ?_)
  refine W_loop [8, 16, 17, 18, 76, 77, 78, 79, 80, 81, 82, 83, 84, 85, 86, 87, 88, 89, 90, 91, 92, 93, 94, 95, 96, 97, 98, 99, 100] (fun x : Nat => [(16, .f (I x))]) (fun x : Nat => []) (fun x : Nat => x ≤ n) (fun x : Nat => n - x) (0) (Nat.zero_le _) (by refine weak_of ?_ ?_ <;> simp (disch := omega) only [go_sem, Nat.reduceAdd, Nat.reduceLT, Nat.reduceEqDiff] <;> first | rfl | exact ⟨rfl, rfl⟩ | exact Or.inl rfl | exact ⟨Or.inl rfl, Or.inl rfl⟩ | trivial | assumption | omega | (symm; assumption) | ((repeat' apply And.intro) <;> first | rfl | omega | trivial | assumption)) ?_
  rintro x hx
  simp only [go_sem, Nat.reduceAdd, Nat.reduceLT, Nat.reduceEqDiff]
  repeat (first | (with_reducible first | refine W_seq fun K hK => ?_ | refine J_block ?_ | refine J_skip ?_ | refine J_exit ?_ | refine J_ret ?_ | refine J_region ?_  | refine J_drawn mixed (by kernel_rfl) ?_ | refine aApp_sl ?_ | refine aApp_old ?_ | refine J_c ?_ | refine Jc_true ?_ | refine Jc_false ?_ | exact Frz.f _ | (refine Kont.go (by assumption) ?_) | (simp (config := { maxSteps := 3000000 }) (disch := omega) only [go_sem, Nat.reduceEqDiff, ↓reduceIte, Nat.reduceAdd, Nat.reduceLT, Nat.reduceLeDiff, Int.reduceLT, Int.reduceLE, Int.reduceEq, Int.reduceNe, Int.reduceAdd, Int.reduceSub, Int.reduceMul, Int.reduceNeg, Int.reduceToNat])) | refine call_f (pickI _ _ (by omega) (by omega) (by omega) (by omega)) rfl ?_ | refine callQ_f (pickI _ _ (by omega) (by omega) (by omega) (by omega)) rfl ?_ | refine And.intro (by omega) ?_ | refine And.intro (And.intro (by omega) (by omega)) ?_)
  refine Jc_if (fun hxn => ?_) (fun hxn => ?_) <;> try simp only [decide_eq_true_eq, decide_eq_false_iff_not, Bool.not_eq_true', Bool.not_eq_false', Bool.not_true, Bool.not_false, Int.ofNat_lt, Int.ofNat_le, Int.natCast_inj, Classical.not_not] at hxn
  · have g1 := hxg (powM n (at2 m) a') x hxn
    have g2 := hxg (powM n (at2 m) (a' + b')) x hxn
    have hrow : Row (szQ 8 a') ((List.range n).map (powM n (at2 m) a' x)) := fun z hz => by
      obtain ⟨k, hk, rfl⟩ := List.mem_map.1 hz
      exact hfz a' x k hxn (List.mem_range.1 hk)
    have h1 := hsz a' (by omega)
    have h2 := hsz b' (by omega)
    have hst := step_w (Frs.c hrow) (hFP b') (h1sz _) (h1sz _) (by omega) (by omega) (by simp; omega) (by rw [hlP]; omega)
    obtain ⟨e1, e2⟩ := stp_mxL (n := n) (y := powM n (at2 m) a' x) (hchP b')
    have e3 : (List.range n).map (fun k => sumF (fun i => powM n (at2 m) a' x i * powM n (at2 m) b' i k) n) = (List.range n).map (powM n (at2 m) (a' + b') x) := List.map_congr_left fun k hk => (pow_add (A := at2 m) b' x k hxn (List.mem_range.1 hk)).symm
    rw [e1, e2, e3] at hst
    repeat (first | (with_reducible first | refine W_seq fun K hK => ?_ | refine J_block ?_ | refine J_skip ?_ | refine J_exit ?_ | refine J_ret ?_ | refine J_region ?_  | refine J_drawn mixed (by kernel_rfl) ?_ | refine aApp_sl ?_ | refine aApp_old ?_ | refine J_c ?_ | refine Jc_true ?_ | refine Jc_false ?_ | exact Frz.f _ | (refine Kont.go (by assumption) ?_) | (simp (config := { maxSteps := 3000000 }) (disch := omega) only [go_sem, Nat.reduceEqDiff, ↓reduceIte, Nat.reduceAdd, Nat.reduceLT, Nat.reduceLeDiff, Int.reduceLT, Int.reduceLE, Int.reduceEq, Int.reduceNe, Int.reduceAdd, Int.reduceSub, Int.reduceMul, Int.reduceNeg, Int.reduceToNat, g1, hxl])) | refine call_f (pickI _ _ (by omega) (by omega) (by omega) (by omega)) rfl ?_ | refine callQ_f (pickI _ _ (by omega) (by omega) (by omega) (by omega)) rfl ?_ | refine And.intro (by omega) ?_ | refine And.intro (And.intro (by omega) (by omega)) ?_)
    refine call_f hst rfl ?_
    repeat (first | (with_reducible first | refine W_seq fun K hK => ?_ | refine J_block ?_ | refine J_skip ?_ | refine J_exit ?_ | refine J_ret ?_ | refine J_region ?_  | refine J_drawn mixed (by kernel_rfl) ?_ | refine aApp_sl ?_ | refine aApp_old ?_ | refine J_c ?_ | refine Jc_true ?_ | refine Jc_false ?_ | exact Frz.f _ | (refine Kont.go (by assumption) ?_) | (simp (config := { maxSteps := 3000000 }) (disch := omega) only [go_sem, Nat.reduceEqDiff, ↓reduceIte, Nat.reduceAdd, Nat.reduceLT, Nat.reduceLeDiff, Int.reduceLT, Int.reduceLE, Int.reduceEq, Int.reduceNe, Int.reduceAdd, Int.reduceSub, Int.reduceMul, Int.reduceNeg, Int.reduceToNat, g2, hxl])) | refine call_f (pickI _ _ (by omega) (by omega) (by omega) (by omega)) rfl ?_ | refine callQ_f (pickI _ _ (by omega) (by omega) (by omega) (by omega)) rfl ?_ | refine And.intro (by omega) ?_ | refine And.intro (And.intro (by omega) (by omega)) ?_)
    refine call_f (sameFracs_w ((List.range n).map (powM n (at2 m) (a' + b') x)) (by simp; omega)) rfl ?_
    repeat (first | (with_reducible first | refine W_seq fun K hK => ?_ | refine J_block ?_ | refine J_skip ?_ | refine J_exit ?_ | refine J_ret ?_ | refine J_region ?_  | refine J_drawn mixed (by kernel_rfl) ?_ | refine aApp_sl ?_ | refine aApp_old ?_ | refine J_c ?_ | refine Jc_true ?_ | refine Jc_false ?_ | exact Frz.f _ | (refine Kont.go (by assumption) ?_) | (simp (config := { maxSteps := 3000000 }) (disch := omega) only [go_sem, Nat.reduceEqDiff, ↓reduceIte, Nat.reduceAdd, Nat.reduceLT, Nat.reduceLeDiff, Int.reduceLT, Int.reduceLE, Int.reduceEq, Int.reduceNe, Int.reduceAdd, Int.reduceSub, Int.reduceMul, Int.reduceNeg, Int.reduceToNat])) | refine call_f (pickI _ _ (by omega) (by omega) (by omega) (by omega)) rfl ?_ | refine callQ_f (pickI _ _ (by omega) (by omega) (by omega) (by omega)) rfl ?_ | refine And.intro (by omega) ?_ | refine And.intro (And.intro (by omega) (by omega)) ?_)
    refine ⟨x + 1, by omega, by omega, weak_of ?_ ?_⟩ <;> (try simp (disch := omega) only [go_sem, Nat.reduceAdd, Nat.reduceLT, Nat.reduceEqDiff]) <;> (try first | done | omega | rfl | exact ⟨rfl, rfl⟩ | trivial)
  · have he : x = n := by omega
    repeat (first | (with_reducible first | refine W_seq fun K hK => ?_ | refine J_block ?_ | refine J_skip ?_ | refine J_exit ?_ | refine J_ret ?_ | refine J_region ?_  | refine J_drawn mixed (by kernel_rfl) ?_ | refine aApp_sl ?_ | refine aApp_old ?_ | refine J_c ?_ | refine Jc_true ?_ | refine Jc_false ?_ | exact Frz.f _ | (refine Kont.go (by assumption) ?_) | (simp (config := { maxSteps := 3000000 }) (disch := omega) only [go_sem, Nat.reduceEqDiff, ↓reduceIte, Nat.reduceAdd, Nat.reduceLT, Nat.reduceLeDiff, Int.reduceLT, Int.reduceLE, Int.reduceEq, Int.reduceNe, Int.reduceAdd, Int.reduceSub, Int.reduceMul, Int.reduceNeg, Int.reduceToNat])) | refine call_f (pickI _ _ (by omega) (by omega) (by omega) (by omega)) rfl ?_ | refine callQ_f (pickI _ _ (by omega) (by omega) (by omega) (by omega)) rfl ?_ | refine And.intro (by omega) ?_ | refine And.intro (And.intro (by omega) (by omega)) ?_)
    obtain ⟨q, r, hr, hcr, hq, hqt, hqf, hqr⟩ := last_ex (n := n) (R := wsh (edg m) n) wsh_pre (by omega)
    have hlast := last_w (p := q) hF (by decide) (by decide) (by omega) hchk (by rw [hlen]; exact hq) (by rw [hlen]; exact hqt) (by rw [hlen]; exact hqf)
    rw [hlen, hqr] at hlast
    obtain ⟨l, hl⟩ : ∃ l, l = cls n (wsh (edg m) n) r := ⟨_, rfl⟩
    rw [← hl] at hlast
    obtain ⟨fl, hfl⟩ : ∃ fl, fl = !decide (0 ≤ firstI (fun i => ((shutL n (wsh (edg m) n) n).drop (q + 1)).getD i false) ((shutL n (wsh (edg m) n) n).drop (q + 1)).length) := ⟨_, rfl⟩
    rw [← hfl] at hlast
    cases fl with
    | false =>
      refine call_f (still_many_w hF (by decide) (by decide) (by omega) hchk hlast) rfl ?_
      repeat (first | (with_reducible first | refine W_seq fun K hK => ?_ | refine J_block ?_ | refine J_skip ?_ | refine J_exit ?_ | refine J_ret ?_ | refine J_region ?_  | refine J_drawn mixed (by kernel_rfl) ?_ | refine aApp_sl ?_ | refine aApp_old ?_ | refine J_c ?_ | refine Jc_true ?_ | refine Jc_false ?_ | exact Frz.f _ | (refine Kont.go (by assumption) ?_) | (simp (config := { maxSteps := 3000000 }) (disch := omega) only [go_sem, Nat.reduceEqDiff, ↓reduceIte, Nat.reduceAdd, Nat.reduceLT, Nat.reduceLeDiff, Int.reduceLT, Int.reduceLE, Int.reduceEq, Int.reduceNe, Int.reduceAdd, Int.reduceSub, Int.reduceMul, Int.reduceNeg, Int.reduceToNat])) | refine call_f (pickI _ _ (by omega) (by omega) (by omega) (by omega)) rfl ?_ | refine callQ_f (pickI _ _ (by omega) (by omega) (by omega) (by omega)) rfl ?_ | refine And.intro (by omega) ?_ | refine And.intro (And.intro (by omega) (by omega)) ?_)
    | true =>
      have hlm : ∀ s ∈ l, s < n := fun s hs => by rw [hl] at hs; exact (cls_mem.1 hs).1
      have hnd : l.Nodup := by rw [hl]; exact cls_nodup
      have hl0 : 0 < l.length := List.length_pos_of_mem (by rw [hl]; exact cls_self wsh_pre hr)
      have hl6 : l.length ≤ 6 := Nat.le_trans (nodup_le hnd hlm) hn6
      have hirr := irr_cls hs hr hcr
      rw [← hl] at hirr
      obtain ⟨y, hy, hys, hy1⟩ := wSol_spec hirr rfl hl0 hnd
      have hsl : (wSol m l).length = l.length := by rw [hy]; simp
      have hstill := still_one_w hF (by decide) (by decide) (by omega) hchk hlast hl0 hl6 (by rw [hlen]; exact hlm) (by omega)
      rw [hsl, hlen] at hstill
      have hsol : ∀ c, c < l.length → (wSol m l).getD c 0 = y c := fun c hc => by rw [hy]; simp [List.getD, hc]
      obtain ⟨p, hp⟩ : ∃ p, p = stF l (wSol m l) l.length := ⟨_, rfl⟩
      have hstat : ∀ k, k < n → sumF (fun i => p i * at2 m i k) n = p k := by rw [hp]; exact stF_stat hs hr hcr hl hys hsol
      have hps : FV.fz 3 (stL n l (wSol m l) l.length) = frs ((List.range n).map p) := by unfold stL; rw [hp]; show _ = FV.fz 3 (((List.range n).map _).map fr); rw [List.map_map]; rfl
      rw [hps] at hstill
      have hszl : ∀ d, d ≤ 6 → szG 17 d ≤ 100000 := by decide
      have hwf : Row (szG 17 l.length) (wSol m l) := wSol_fz (b := 8) hsq (by decide) (by rw [hlen]; exact hlm)
      have h17 := szG_ge (s := 17) l.length
      have hrow : Row (szG 17 l.length) ((List.range n).map p) := fun z hz => by
        obtain ⟨k, hk, rfl⟩ := List.mem_map.1 hz
        rw [hp]
        exact stF_fz hwf (by omega) (by omega)
      have h1 := hszl l.length hl6
      have h2 := hsz (a' + b') (by omega)
      have hst := step_w (Frs.c hrow) (hFP (a' + b')) (by omega) (h1sz _) (by omega) (by omega) (by simp; omega) (by rw [hlP]; omega)
      obtain ⟨e1, e2⟩ := stp_mxL (n := n) (y := p) (hchP (a' + b'))
      have e3 : (List.range n).map (fun k => sumF (fun i => p i * powM n (at2 m) (a' + b') i k) n) = (List.range n).map p := List.map_congr_left fun k hk => stat_pow hstat _ k (List.mem_range.1 hk)
      rw [e1, e2, e3] at hst
      refine call_f hstill rfl ?_
      repeat (first | (with_reducible first | refine W_seq fun K hK => ?_ | refine J_block ?_ | refine J_skip ?_ | refine J_exit ?_ | refine J_ret ?_ | refine J_region ?_  | refine J_drawn mixed (by kernel_rfl) ?_ | refine aApp_sl ?_ | refine aApp_old ?_ | refine J_c ?_ | refine Jc_true ?_ | refine Jc_false ?_ | exact Frz.f _ | (refine Kont.go (by assumption) ?_) | (simp (config := { maxSteps := 3000000 }) (disch := omega) only [go_sem, Nat.reduceEqDiff, ↓reduceIte, Nat.reduceAdd, Nat.reduceLT, Nat.reduceLeDiff, Int.reduceLT, Int.reduceLE, Int.reduceEq, Int.reduceNe, Int.reduceAdd, Int.reduceSub, Int.reduceMul, Int.reduceNeg, Int.reduceToNat])) | refine call_f (pickI _ _ (by omega) (by omega) (by omega) (by omega)) rfl ?_ | refine callQ_f (pickI _ _ (by omega) (by omega) (by omega) (by omega)) rfl ?_ | refine And.intro (by omega) ?_ | refine And.intro (And.intro (by omega) (by omega)) ?_)
      refine call_f hst rfl ?_
      repeat (first | (with_reducible first | refine W_seq fun K hK => ?_ | refine J_block ?_ | refine J_skip ?_ | refine J_exit ?_ | refine J_ret ?_ | refine J_region ?_  | refine J_drawn mixed (by kernel_rfl) ?_ | refine aApp_sl ?_ | refine aApp_old ?_ | refine J_c ?_ | refine Jc_true ?_ | refine Jc_false ?_ | exact Frz.f _ | (refine Kont.go (by assumption) ?_) | (simp (config := { maxSteps := 3000000 }) (disch := omega) only [go_sem, Nat.reduceEqDiff, ↓reduceIte, Nat.reduceAdd, Nat.reduceLT, Nat.reduceLeDiff, Int.reduceLT, Int.reduceLE, Int.reduceEq, Int.reduceNe, Int.reduceAdd, Int.reduceSub, Int.reduceMul, Int.reduceNeg, Int.reduceToNat])) | refine call_f (pickI _ _ (by omega) (by omega) (by omega) (by omega)) rfl ?_ | refine callQ_f (pickI _ _ (by omega) (by omega) (by omega) (by omega)) rfl ?_ | refine And.intro (by omega) ?_ | refine And.intro (And.intro (by omega) (by omega)) ?_)
      refine call_f (sameFracs_w ((List.range n).map p) (by simp; omega)) rfl ?_
      repeat (first | (with_reducible first | refine W_seq fun K hK => ?_ | refine J_block ?_ | refine J_skip ?_ | refine J_exit ?_ | refine J_ret ?_ | refine J_region ?_  | refine J_drawn mixed (by kernel_rfl) ?_ | refine aApp_sl ?_ | refine aApp_old ?_ | refine J_c ?_ | refine Jc_true ?_ | refine Jc_false ?_ | exact Frz.f _ | (refine Kont.go (by assumption) ?_) | (simp (config := { maxSteps := 3000000 }) (disch := omega) only [go_sem, Nat.reduceEqDiff, ↓reduceIte, Nat.reduceAdd, Nat.reduceLT, Nat.reduceLeDiff, Int.reduceLT, Int.reduceLE, Int.reduceEq, Int.reduceNe, Int.reduceAdd, Int.reduceSub, Int.reduceMul, Int.reduceNeg, Int.reduceToNat])) | refine call_f (pickI _ _ (by omega) (by omega) (by omega) (by omega)) rfl ?_ | refine callQ_f (pickI _ _ (by omega) (by omega) (by omega) (by omega)) rfl ?_ | refine And.intro (by omega) ?_ | refine And.intro (And.intro (by omega) (by omega)) ?_)
end Go.Proofs.YtabmgfchkcmcmaaDoor
