/- The law ChainCycles: it returns true. Condition: what slices may hold. -/
import Derived.Test.YtabmgfchkcmcmaaDoorZCycW
import Derived.Test.YtabmgfchkcmcmaaDoorZPowT
import Derived.Test.YtabmgfchkcmcmaaDoorZMatW
import Derived.Test.YtabmgfchkcmcmaaDoorZOpn
import Derived.Test.YtabmgfchkcmcmaaDoorZStlW
import Derived.Test.YtabmgfchkcmcmaaDoorZHitA
set_option linter.unusedVariables false
set_option linter.unusedSimpArgs false
namespace Go.Proofs.YtabmgfchkcmcmaaDoor
open Go Go.RowKit
section
variable {B : List Bool} {q : Nat}
theorem cnt_one (hall : ∀ j, j ≠ q → B.getD j false = false) (hq : B.getD q false = true) : ∀ x, cntT B x = if q < x then 1 else 0 := by
  intro x
  induction x with
  | zero => rfl
  | succ x ih =>
    show (if B.getD x false = true then cntT B x + 1 else cntT B x) = _
    by_cases e : x = q
    · subst e
      rw [if_pos hq, ih, if_neg (by omega), if_pos (by omega)]
    · rw [hall x e, if_neg (by decide), ih]
      by_cases h : q < x
      · rw [if_pos h, if_pos (by omega)]
      · rw [if_neg h, if_neg (by omega)]
theorem lst_one {C : List (List Nat)} (hall : ∀ j, j ≠ q → B.getD j false = false) (hq : B.getD q false = true) : ∀ x, q < x → lstC C B x = .fz 1 (Ns (C.getD q [])) := by
  intro x
  induction x with
  | zero => intro h; omega
  | succ x ih =>
    intro h
    show (if B.getD x false = true then FV.fz 1 (Ns (C.getD x [])) else lstC C B x) = _
    by_cases e : x = q
    · subst e; rw [if_pos hq]
    · rw [hall x e, if_neg (by decide)]
      exact ih (by omega)
theorem cnt_mono {x y : Nat} (h : x ≤ y) : cntT B x ≤ cntT B y := by
  induction y with
  | zero => rw [show x = 0 by omega]; exact Nat.le_refl _
  | succ y ih =>
    by_cases e : x = y + 1
    · rw [e]; exact Nat.le_refl _
    · refine Nat.le_trans (ih (by omega)) ?_
      show cntT B y ≤ if B.getD y false = true then cntT B y + 1 else cntT B y
      split <;> omega
theorem cnt_two {j x : Nat} (hq : B.getD q false = true) (hj : B.getD j false = true) (h1 : q < j) (h2 : j < x) : 2 ≤ cntT B x := by
  have a : cntT B (q + 1) = cntT B q + 1 := if_pos hq
  have b : cntT B (j + 1) = cntT B j + 1 := if_pos hj
  have c := cnt_mono (B := B) (show q + 1 ≤ j by omega)
  have d := cnt_mono (B := B) (show j + 1 ≤ x by omega)
  omega
theorem flag_cnt (hq : q < B.length) (hqt : B.getD q false = true) (hqf : ∀ j, j < q → B.getD j false = false) :
    (!decide (0 ≤ firstI (fun i => (B.drop (q + 1)).getD i false) (B.drop (q + 1)).length)) = decide (cntT B B.length = 1) ∧
    (cntT B B.length = 1 → ∀ j, j ≠ q → B.getD j false = false) := by
  have hd : ∀ i, (B.drop (q + 1)).getD i false = B.getD (q + 1 + i) false := fun i => by
    rw [List.getD_eq_getElem?_getD, List.getD_eq_getElem?_getD, List.getElem?_drop]
  rw [firstI_any]
  have key : cntT B B.length = 1 → ∀ j, j ≠ q → B.getD j false = false := fun h1 j hj => by
    cases hb : B.getD j false with
    | false => rfl
    | true =>
      by_cases hlt : j < q
      · rw [hqf j hlt] at hb; cases hb
      · by_cases hjl : j < B.length
        · have := cnt_two hqt hb (by omega) hjl
          omega
        · rw [List.getD_eq_getElem?_getD, List.getElem?_eq_none (by omega)] at hb
          cases hb
  refine ⟨?_, key⟩
  by_cases h1 : cntT B B.length = 1
  · rw [decide_eq_true h1]
    have : ((List.range (B.drop (q + 1)).length).any fun i => (B.drop (q + 1)).getD i false) = false := by
      rw [List.any_eq_false]
      intro i _
      rw [hd, key h1 _ (by omega)]
      decide
    rw [this]; rfl
  · rw [decide_eq_false h1]
    have : ((List.range (B.drop (q + 1)).length).any fun i => (B.drop (q + 1)).getD i false) = true := by
      cases hb : ((List.range (B.drop (q + 1)).length).any fun i => (B.drop (q + 1)).getD i false) with
      | true => rfl
      | false =>
        rw [List.any_eq_false] at hb
        refine absurd ?_ h1
        rw [cnt_one (q := q) (fun j hj => ?_) hqt, if_pos hq]
        by_cases hlt : j < q
        · exact hqf j hlt
        · by_cases hjl : j < B.length
          · have := hb (j - (q + 1)) (List.mem_range.2 (by rw [List.length_drop]; omega))
            rw [hd, show q + 1 + (j - (q + 1)) = j by omega] at this
            simpa using this
          · rw [List.getD_eq_getElem?_getD, List.getElem?_eq_none (by omega)]; rfl
    rw [this]; rfl
end
theorem prodF_fz {f : Nat → Rat} {s : Nat} : ∀ {n : Nat}, (∀ k, k < n → Fz (f k) s) → Fz (prodF f n) (8 + n * s) := by
  intro n
  induction n with
  | zero => intro _; exact (Fz.int (n := 1) (by decide)).up (by omega)
  | succ n ih =>
    intro h
    refine ((ih fun k hk => h k (by omega)).mul (h n (by omega))).up ?_
    rw [Nat.add_mul]; omega
theorem at2_nonneg {m : List (List Rat)} (hc : ∀ r ∈ m, chancesB r = true) (i k : Nat) : 0 ≤ at2 m i k := by
  unfold at2
  by_cases hi : i < m.length
  · rw [lget_lt m [] hi]
    have h := (of_decide_eq_true (hc _ (List.getElem_mem hi))).1
    by_cases hk : k < m[i].length
    · rw [lget_lt _ 0 hk]; exact h _ (List.getElem_mem _)
    · rw [List.getD_eq_getElem?_getD, List.getElem?_eq_none (by omega)]; exact Rat.le_refl
  · rw [List.getD_eq_getElem?_getD (l := m), List.getElem?_eq_none (by omega)]
    exact Rat.le_refl
structure MatOk (n : Nat) (ev : Bool) (z : List (List Rat)) : Prop where
  len : z.length = n
  chk : chkM z = 0
  F : FrM 200 (z.map frs) z
  even : ev = true → ∃ w : Nat → Rat, (∀ i, i < n → 0 < w i) ∧ ∀ i k, i < n → k < n → w i * at2 z i k = w k * at2 z k i
theorem ev_ok {n : Nat} {m : List (List Rat)} (hm : SqM 8 (m.map frs) m) (hn : n = m.length) (hn1 : 1 ≤ n) (hs : Sto n (at2 m)) : MatOk n true (mxL n (evM n (at2 m))) where
  len := by simp [mxL]
  chk := chk_mxL hn1 (by rw [hn]; exact hm.le) (ev_sto hs)
  F := FrM.c fun r hr => by
    obtain ⟨i, hi, rfl⟩ := List.mem_map.1 hr
    intro z hz
    obtain ⟨k, hk, rfl⟩ := List.mem_map.1 hz
    have hi := List.mem_range.1 hi
    have hk := List.mem_range.1 hk
    have hA : ∀ i k, i < n → k < n → Fz (at2 m i k) 8 := fun i k hi hk => hm.f2 (by decide) (by omega) (by omega)
    have hS := sumF_fz (n := n) (f := fun j => at2 m i j + at2 m j i) (s := 17) fun k hk => Fz.up ((hA i k hi hk).add (hA k i hk hi)) (by omega)
    have hmu := Nat.mul_le_mul_right (17 + 1) (show n ≤ 6 by rw [hn]; exact hm.le)
    have := ((hA i k hi hk).add (hA k i hk hi)).div hS
    exact Fz.up this (by omega)
  even _ := ⟨evS n (at2 m), fun i hi => evS_pos hs hi, fun i k hi hk => by
    rw [at2_mxL hi hk, at2_mxL hk hi]; exact ev_sym hs hi hk⟩
set_option maxRecDepth 100000 in
theorem neq_bool2 (A B : Operand) (a b : Bool) (K : AV → Prop) : aBin Tryd.prog .neq 4 A B (.f (.v (.bool a))) (.f (.v (.bool b))) K = K (.f (.v (.bool (a != b)))) := by
  have hrun : ∀ w : World, (do eqGuard .neq 4 A B (.bool a) (.bool b); binOp .neq 4 (.bool a) (.bool b)).run Tryd.prog w = .ok (.bool (a != b)) w := fun w => by
    cases a <;> cases b <;> rfl
  refine propext ⟨fun h => ?_, fun h => ?_⟩
  · obtain ⟨u, v, r, hu, hv, hw, hk⟩ := h
    cases hu; cases hv
    have := (hrun default).symm.trans (hw default)
    cases this
    exact hk
  · exact ⟨_, _, _, rfl, rfl, hrun, h⟩
set_option maxRecDepth 100000 in
set_option maxHeartbeats 8000000 in
theorem chainCycles_good (w : List Int) (k : Int) (rd : List Int) (ev : Bool) (hw : OkIs w) (hk : OkI k) (hrd : OkIs rd) :
    Good Tryd.prog 10 [ints w, I k, ints rd, Bo ev] (Bo true) := by
  have hwl := hw.1
  have hrl := hrd.1
  refine good_of Tryd.func10 rfl (by kernel_rfl) fun X hO => ?_; rw [Tryd.ntmps10, Tryd.results10]; simp only [ast0, List.map_cons, List.map_nil, List.length_cons, List.length_nil, Nat.reduceAdd, Nat.reduceSub, List.replicate_succ, List.replicate_zero, List.cons_append, List.nil_append]
  by_cases hg1 : w.length ≤ 256
  case neg =>
    have hg : (256 : Int) < (w.length : Int) := by omega
    repeat (first | (with_reducible first | refine W_seq fun K hK => ?_ | refine J_block ?_ | refine J_skip ?_ | refine J_exit ?_ | refine J_ret ?_ | refine J_region ?_  | refine J_drawn mixed (by kernel_rfl) ?_ | refine aApp_sl ?_ | refine aApp_old ?_ | refine J_c ?_ | refine Jc_true ?_ | refine Jc_false ?_ | exact Frz.f _ | (refine Kont.go (by assumption) ?_) | (simp (config := { maxSteps := 3000000 }) (disch := omega) only [go_sem, Nat.reduceEqDiff, ↓reduceIte, Nat.reduceAdd, Nat.reduceLT, Nat.reduceLeDiff, Int.reduceLT, Int.reduceLE, Int.reduceEq, Int.reduceNe, Int.reduceAdd, Int.reduceSub, Int.reduceMul, Int.reduceNeg, Int.reduceToNat, hg, List.length_map])) | refine call_f (pickI _ _ (by omega) (by omega) (by omega) (by omega)) rfl ?_ | refine callQ_f (pickI _ _ (by omega) (by omega) (by omega) (by omega)) rfl ?_ | refine call_f (rmul_w (by assumption) (by assumption) (by omega) (by omega)) rfl ?_ | refine callQ_f (rmul_w (by assumption) (by assumption) (by omega) (by omega)) rfl ?_ | refine call_f (rof_frac (by omega) (by omega)) rfl ?_ | refine callQ_f (rof_frac (by omega) (by omega)) rfl ?_ | refine And.intro (by omega) ?_ | refine And.intro (And.intro (by omega) (by omega)) ?_)
  have hg : ¬ (256 : Int) < (w.length : Int) := by omega
  by_cases hg2 : rd.length ≤ 12
  case neg =>
    have hg' : (12 : Int) < (rd.length : Int) := by omega
    repeat (first | (with_reducible first | refine W_seq fun K hK => ?_ | refine J_block ?_ | refine J_skip ?_ | refine J_exit ?_ | refine J_ret ?_ | refine J_region ?_  | refine J_drawn mixed (by kernel_rfl) ?_ | refine aApp_sl ?_ | refine aApp_old ?_ | refine J_c ?_ | refine Jc_true ?_ | refine Jc_false ?_ | exact Frz.f _ | (refine Kont.go (by assumption) ?_) | (simp (config := { maxSteps := 3000000 }) (disch := omega) only [go_sem, Nat.reduceEqDiff, ↓reduceIte, Nat.reduceAdd, Nat.reduceLT, Nat.reduceLeDiff, Int.reduceLT, Int.reduceLE, Int.reduceEq, Int.reduceNe, Int.reduceAdd, Int.reduceSub, Int.reduceMul, Int.reduceNeg, Int.reduceToNat, hg, hg', List.length_map])) | refine call_f (pickI _ _ (by omega) (by omega) (by omega) (by omega)) rfl ?_ | refine callQ_f (pickI _ _ (by omega) (by omega) (by omega) (by omega)) rfl ?_ | refine call_f (rmul_w (by assumption) (by assumption) (by omega) (by omega)) rfl ?_ | refine callQ_f (rmul_w (by assumption) (by assumption) (by omega) (by omega)) rfl ?_ | refine call_f (rof_frac (by omega) (by omega)) rfl ?_ | refine callQ_f (rof_frac (by omega) (by omega)) rfl ?_ | refine And.intro (by omega) ?_ | refine And.intro (And.intro (by omega) (by omega)) ?_)
  have hg' : ¬ (12 : Int) < (rd.length : Int) := by omega
  have p1 := pick_good k 4 hk.1 hk.2 (by decide) (by decide)
  have q1 : pickN k 4 < 4 := pickN_lt _ (by decide)
  obtain ⟨k', hk'⟩ : ∃ k', k' = pickN k 4 := ⟨_, rfl⟩
  rw [← hk'] at p1 q1
  repeat (first | (with_reducible first | refine W_seq fun K hK => ?_ | refine J_block ?_ | refine J_skip ?_ | refine J_exit ?_ | refine J_ret ?_ | refine J_region ?_  | refine J_drawn mixed (by kernel_rfl) ?_ | refine aApp_sl ?_ | refine aApp_old ?_ | refine J_c ?_ | refine Jc_true ?_ | refine Jc_false ?_ | exact Frz.f _ | (refine Kont.go (by assumption) ?_) | (simp (config := { maxSteps := 3000000 }) (disch := omega) only [go_sem, Nat.reduceEqDiff, ↓reduceIte, Nat.reduceAdd, Nat.reduceLT, Nat.reduceLeDiff, Int.reduceLT, Int.reduceLE, Int.reduceEq, Int.reduceNe, Int.reduceAdd, Int.reduceSub, Int.reduceMul, Int.reduceNeg, Int.reduceToNat, hg, hg', List.length_map])) | refine call_f (pickI _ _ (by omega) (by omega) (by omega) (by omega)) rfl ?_ | refine callQ_f (pickI _ _ (by omega) (by omega) (by omega) (by omega)) rfl ?_ | refine call_f (rmul_w (by assumption) (by assumption) (by omega) (by omega)) rfl ?_ | refine callQ_f (rmul_w (by assumption) (by assumption) (by omega) (by omega)) rfl ?_ | refine call_f (rof_frac (by omega) (by omega)) rfl ?_ | refine callQ_f (rof_frac (by omega) (by omega)) rfl ?_ | refine And.intro (by omega) ?_ | refine And.intro (And.intro (by omega) (by omega)) ?_)
  refine call_f p1 rfl ?_
  repeat (first | (with_reducible first | refine W_seq fun K hK => ?_ | refine J_block ?_ | refine J_skip ?_ | refine J_exit ?_ | refine J_ret ?_ | refine J_region ?_  | refine J_drawn mixed (by kernel_rfl) ?_ | refine aApp_sl ?_ | refine aApp_old ?_ | refine J_c ?_ | refine Jc_true ?_ | refine Jc_false ?_ | exact Frz.f _ | (refine Kont.go (by assumption) ?_) | (simp (config := { maxSteps := 3000000 }) (disch := omega) only [go_sem, Nat.reduceEqDiff, ↓reduceIte, Nat.reduceAdd, Nat.reduceLT, Nat.reduceLeDiff, Int.reduceLT, Int.reduceLE, Int.reduceEq, Int.reduceNe, Int.reduceAdd, Int.reduceSub, Int.reduceMul, Int.reduceNeg, Int.reduceToNat])) | refine call_f (pickI _ _ (by omega) (by omega) (by omega) (by omega)) rfl ?_ | refine callQ_f (pickI _ _ (by omega) (by omega) (by omega) (by omega)) rfl ?_ | refine call_f (rmul_w (by assumption) (by assumption) (by omega) (by omega)) rfl ?_ | refine callQ_f (rmul_w (by assumption) (by assumption) (by omega) (by omega)) rfl ?_ | refine call_f (rof_frac (by omega) (by omega)) rfl ?_ | refine callQ_f (rof_frac (by omega) (by omega)) rfl ?_ | refine And.intro (by omega) ?_ | refine And.intro (And.intro (by omega) (by omega)) ?_)
  obtain ⟨n, hn⟩ : ∃ n, n = 1 + k' := ⟨_, rfl⟩
  have hn0 : (1 : Int) + (k' : Int) = (n : Int) := by omega
  have hn4 : n ≤ 4 := by omega
  have hn1 : 1 ≤ n := by omega
  have hM := matrixOf_w w n (fun x hx => hw.2 x hx) (by omega) (by omega) hwl
  rw [hn0]
  refine call_f hM rfl ?_
  obtain ⟨m, hm⟩ : ∃ m, m = matR w n n := ⟨_, rfl⟩
  have hlen : m.length = n := by rw [hm]; exact matR_len w n n
  have hchk : chkM m = 0 := by rw [hm]; exact matR_chk (by omega) (by omega)
  have hRow : ∀ r ∈ m, Row 8 r := by rw [hm]; exact matR_Row (by omega) (by omega)
  have hF : FrM 8 (m.map frs) m := FrM.c hRow
  rw [← hm]
  obtain ⟨hsq, _, hch⟩ := chk_sq hF hchk
  have hs : Sto n (at2 m) := sto_of hlen.symm (fun r hr => (hsq.sq r hr).trans hlen) hch
  repeat (first | (with_reducible first | refine W_seq fun K hK => ?_ | refine J_block ?_ | refine J_skip ?_ | refine J_exit ?_ | refine J_ret ?_ | refine J_region ?_  | refine J_drawn mixed (by kernel_rfl) ?_ | refine aApp_sl ?_ | refine aApp_old ?_ | refine J_c ?_ | refine Jc_true ?_ | refine Jc_false ?_ | exact Frz.f _ | (refine Kont.go (by assumption) ?_) | (simp (config := { maxSteps := 3000000 }) (disch := omega) only [go_sem, Nat.reduceEqDiff, ↓reduceIte, Nat.reduceAdd, Nat.reduceLT, Nat.reduceLeDiff, Int.reduceLT, Int.reduceLE, Int.reduceEq, Int.reduceNe, Int.reduceAdd, Int.reduceSub, Int.reduceMul, Int.reduceNeg, Int.reduceToNat])) | refine call_f (pickI _ _ (by omega) (by omega) (by omega) (by omega)) rfl ?_ | refine callQ_f (pickI _ _ (by omega) (by omega) (by omega) (by omega)) rfl ?_ | refine call_f (rmul_w (by assumption) (by assumption) (by omega) (by omega)) rfl ?_ | refine callQ_f (rmul_w (by assumption) (by assumption) (by omega) (by omega)) rfl ?_ | refine call_f (rof_frac (by omega) (by omega)) rfl ?_ | refine callQ_f (rof_frac (by omega) (by omega)) rfl ?_ | refine And.intro (by omega) ?_ | refine And.intro (And.intro (by omega) (by omega)) ?_)
  refine Jc_join (by assumption) [9, 34, 35] (fun z : List (List Rat) => [(9, .f (rowsF z))]) (fun z : List (List Rat) => []) (fun z : List (List Rat) => MatOk n ev z) ?_ ?_
  · cases ev with
    | true =>
      have hev := evened_w hsq (by rw [hlen]; exact hs)
      have hez : FV.fz 1 (evLs m.length (at2 m) m.length) = rowsF (mxL n (evM n (at2 m))) := by
        rw [hlen]
        unfold evLs mxL evL
        show FV.fz 1 _ = FV.fz 1 (((List.range n).map fun i => (List.range n).map (evM n (at2 m) i)).map frs)
        rw [List.map_map]; rfl
      rw [hez] at hev
      repeat (first | (with_reducible first | refine W_seq fun K hK => ?_ | refine J_block ?_ | refine J_skip ?_ | refine J_exit ?_ | refine J_ret ?_ | refine J_region ?_  | refine J_drawn mixed (by kernel_rfl) ?_ | refine aApp_sl ?_ | refine aApp_old ?_ | refine J_c ?_ | refine Jc_true ?_ | refine Jc_false ?_ | exact Frz.f _ | (refine Kont.go (by assumption) ?_) | (simp (config := { maxSteps := 3000000 }) (disch := omega) only [go_sem, Nat.reduceEqDiff, ↓reduceIte, Nat.reduceAdd, Nat.reduceLT, Nat.reduceLeDiff, Int.reduceLT, Int.reduceLE, Int.reduceEq, Int.reduceNe, Int.reduceAdd, Int.reduceSub, Int.reduceMul, Int.reduceNeg, Int.reduceToNat])) | refine call_f (pickI _ _ (by omega) (by omega) (by omega) (by omega)) rfl ?_ | refine callQ_f (pickI _ _ (by omega) (by omega) (by omega) (by omega)) rfl ?_ | refine call_f (rmul_w (by assumption) (by assumption) (by omega) (by omega)) rfl ?_ | refine callQ_f (rmul_w (by assumption) (by assumption) (by omega) (by omega)) rfl ?_ | refine call_f (rof_frac (by omega) (by omega)) rfl ?_ | refine callQ_f (rof_frac (by omega) (by omega)) rfl ?_ | refine And.intro (by omega) ?_ | refine And.intro (And.intro (by omega) (by omega)) ?_)
      refine call_f hev rfl ?_
      repeat (first | (with_reducible first | refine W_seq fun K hK => ?_ | refine J_block ?_ | refine J_skip ?_ | refine J_exit ?_ | refine J_ret ?_ | refine J_region ?_  | refine J_drawn mixed (by kernel_rfl) ?_ | refine aApp_sl ?_ | refine aApp_old ?_ | refine J_c ?_ | refine Jc_true ?_ | refine Jc_false ?_ | exact Frz.f _ | (refine Kont.go (by assumption) ?_) | (simp (config := { maxSteps := 3000000 }) (disch := omega) only [go_sem, Nat.reduceEqDiff, ↓reduceIte, Nat.reduceAdd, Nat.reduceLT, Nat.reduceLeDiff, Int.reduceLT, Int.reduceLE, Int.reduceEq, Int.reduceNe, Int.reduceAdd, Int.reduceSub, Int.reduceMul, Int.reduceNeg, Int.reduceToNat])) | refine call_f (pickI _ _ (by omega) (by omega) (by omega) (by omega)) rfl ?_ | refine callQ_f (pickI _ _ (by omega) (by omega) (by omega) (by omega)) rfl ?_ | refine call_f (rmul_w (by assumption) (by assumption) (by omega) (by omega)) rfl ?_ | refine callQ_f (rmul_w (by assumption) (by assumption) (by omega) (by omega)) rfl ?_ | refine call_f (rof_frac (by omega) (by omega)) rfl ?_ | refine callQ_f (rof_frac (by omega) (by omega)) rfl ?_ | refine And.intro (by omega) ?_ | refine And.intro (And.intro (by omega) (by omega)) ?_)
      refine ⟨mxL n (evM n (at2 m)), ev_ok hsq hlen.symm hn1 hs, weak_of ?_ ?_⟩ <;> (try simp (disch := omega) only [go_sem, Nat.reduceAdd, Nat.reduceLT, Nat.reduceEqDiff]) <;> (try first | done | omega | rfl | exact ⟨rfl, rfl⟩ | trivial)
    | false =>
      have hok : MatOk n false m := ⟨hlen, hchk, FrM.c fun r hr z hz => (hRow r hr z hz).up (by omega), fun h => by cases h⟩
      repeat (first | (with_reducible first | refine W_seq fun K hK => ?_ | refine J_block ?_ | refine J_skip ?_ | refine J_exit ?_ | refine J_ret ?_ | refine J_region ?_  | refine J_drawn mixed (by kernel_rfl) ?_ | refine aApp_sl ?_ | refine aApp_old ?_ | refine J_c ?_ | refine Jc_true ?_ | refine Jc_false ?_ | exact Frz.f _ | (refine Kont.go (by assumption) ?_) | (simp (config := { maxSteps := 3000000 }) (disch := omega) only [go_sem, Nat.reduceEqDiff, ↓reduceIte, Nat.reduceAdd, Nat.reduceLT, Nat.reduceLeDiff, Int.reduceLT, Int.reduceLE, Int.reduceEq, Int.reduceNe, Int.reduceAdd, Int.reduceSub, Int.reduceMul, Int.reduceNeg, Int.reduceToNat])) | refine call_f (pickI _ _ (by omega) (by omega) (by omega) (by omega)) rfl ?_ | refine callQ_f (pickI _ _ (by omega) (by omega) (by omega) (by omega)) rfl ?_ | refine call_f (rmul_w (by assumption) (by assumption) (by omega) (by omega)) rfl ?_ | refine callQ_f (rmul_w (by assumption) (by assumption) (by omega) (by omega)) rfl ?_ | refine call_f (rof_frac (by omega) (by omega)) rfl ?_ | refine callQ_f (rof_frac (by omega) (by omega)) rfl ?_ | refine And.intro (by omega) ?_ | refine And.intro (And.intro (by omega) (by omega)) ?_)
      refine ⟨m, hok, weak_of ?_ ?_⟩ <;> (try simp (disch := omega) only [go_sem, Nat.reduceAdd, Nat.reduceLT, Nat.reduceEqDiff]) <;> (try first | done | omega | rfl | exact ⟨rfl, rfl⟩ | trivial)
  · rintro z hz
    simp only [go_sem, Nat.reduceAdd, Nat.reduceLT, Nat.reduceEqDiff]
    have hbn1 : (false != false) = false := rfl
    have hbn2 : (true != true) = false := rfl
    obtain ⟨zlen, zchk, zF, zev⟩ := hz
    obtain ⟨zsq, _, zch⟩ := chk_sq zF zchk
    have zs : Sto n (at2 z) := sto_of zlen.symm (fun r hr => (zsq.sq r hr).trans zlen) zch
    obtain ⟨q, r, hr, hcr, hq, hqt, hqf, hqr⟩ := last_ex (n := n) (R := wsh (edg z) n) wsh_pre (by omega)
    have hlast := last_w (p := q) zF (by decide) (by decide) (by omega) zchk (by rw [zlen]; exact hq) (by rw [zlen]; exact hqt) (by rw [zlen]; exact hqf)
    have hcls := rclosed_w zF (by decide) (by decide) (by omega) zchk
    obtain ⟨hfc, hun⟩ := flag_cnt hq hqt hqf
    rw [zlen] at hlast hcls
    rw [hfc, hqr] at hlast
    by_cases h1 : cntT (shutL n (wsh (edg z) n) n) (shutL n (wsh (edg z) n) n).length = 1
    case neg =>
      rw [decide_eq_false h1] at hlast hcls
      have hst := still_many_w zF (by decide) (by decide) (by omega) zchk hlast
      repeat (first | (with_reducible first | refine W_seq fun K hK => ?_ | refine J_block ?_ | refine J_skip ?_ | refine J_exit ?_ | refine J_ret ?_ | refine J_region ?_  | refine J_drawn mixed (by kernel_rfl) ?_ | refine aApp_sl ?_ | refine aApp_old ?_ | refine J_c ?_ | refine Jc_true ?_ | refine Jc_false ?_ | exact Frz.f _ | (refine Kont.go (by assumption) ?_) | (simp (config := { maxSteps := 3000000 }) (disch := omega) only [go_sem, Nat.reduceEqDiff, ↓reduceIte, Nat.reduceAdd, Nat.reduceLT, Nat.reduceLeDiff, Int.reduceLT, Int.reduceLE, Int.reduceEq, Int.reduceNe, Int.reduceAdd, Int.reduceSub, Int.reduceMul, Int.reduceNeg, Int.reduceToNat])) | refine call_f (pickI _ _ (by omega) (by omega) (by omega) (by omega)) rfl ?_ | refine callQ_f (pickI _ _ (by omega) (by omega) (by omega) (by omega)) rfl ?_ | refine call_f (rmul_w (by assumption) (by assumption) (by omega) (by omega)) rfl ?_ | refine callQ_f (rmul_w (by assumption) (by assumption) (by omega) (by omega)) rfl ?_ | refine call_f (rof_frac (by omega) (by omega)) rfl ?_ | refine callQ_f (rof_frac (by omega) (by omega)) rfl ?_ | refine And.intro (by omega) ?_ | refine And.intro (And.intro (by omega) (by omega)) ?_)
      refine call_f (turns_many_w hst) rfl ?_
      repeat (first | (with_reducible first | refine W_seq fun K hK => ?_ | refine J_block ?_ | refine J_skip ?_ | refine J_exit ?_ | refine J_ret ?_ | refine J_region ?_  | refine J_drawn mixed (by kernel_rfl) ?_ | refine aApp_sl ?_ | refine aApp_old ?_ | refine J_c ?_ | refine Jc_true ?_ | refine Jc_false ?_ | exact Frz.f _ | (refine Kont.go (by assumption) ?_) | (simp (config := { maxSteps := 3000000 }) (disch := omega) only [go_sem, Nat.reduceEqDiff, ↓reduceIte, Nat.reduceAdd, Nat.reduceLT, Nat.reduceLeDiff, Int.reduceLT, Int.reduceLE, Int.reduceEq, Int.reduceNe, Int.reduceAdd, Int.reduceSub, Int.reduceMul, Int.reduceNeg, Int.reduceToNat])) | refine call_f (pickI _ _ (by omega) (by omega) (by omega) (by omega)) rfl ?_ | refine callQ_f (pickI _ _ (by omega) (by omega) (by omega) (by omega)) rfl ?_ | refine call_f (rmul_w (by assumption) (by assumption) (by omega) (by omega)) rfl ?_ | refine callQ_f (rmul_w (by assumption) (by assumption) (by omega) (by omega)) rfl ?_ | refine call_f (rof_frac (by omega) (by omega)) rfl ?_ | refine callQ_f (rof_frac (by omega) (by omega)) rfl ?_ | refine And.intro (by omega) ?_ | refine And.intro (And.intro (by omega) (by omega)) ?_)
      refine call_f hcls rfl ?_
      cases ev with
      | true => repeat (first | (with_reducible first | refine W_seq fun K hK => ?_ | refine J_block ?_ | refine J_skip ?_ | refine J_exit ?_ | refine J_ret ?_ | refine J_region ?_  | refine J_drawn mixed (by kernel_rfl) ?_ | refine aApp_sl ?_ | refine aApp_old ?_ | refine J_c ?_ | refine Jc_true ?_ | refine Jc_false ?_ | exact Frz.f _ | (refine Kont.go (by assumption) ?_) | (simp (config := { maxSteps := 3000000 }) (disch := omega) only [go_sem, Nat.reduceEqDiff, ↓reduceIte, Nat.reduceAdd, Nat.reduceLT, Nat.reduceLeDiff, Int.reduceLT, Int.reduceLE, Int.reduceEq, Int.reduceNe, Int.reduceAdd, Int.reduceSub, Int.reduceMul, Int.reduceNeg, Int.reduceToNat, neq_bool2, hbn1])) | refine call_f (pickI _ _ (by omega) (by omega) (by omega) (by omega)) rfl ?_ | refine callQ_f (pickI _ _ (by omega) (by omega) (by omega) (by omega)) rfl ?_ | refine call_f (rmul_w (by assumption) (by assumption) (by omega) (by omega)) rfl ?_ | refine callQ_f (rmul_w (by assumption) (by assumption) (by omega) (by omega)) rfl ?_ | refine call_f (rof_frac (by omega) (by omega)) rfl ?_ | refine callQ_f (rof_frac (by omega) (by omega)) rfl ?_ | refine And.intro (by omega) ?_ | refine And.intro (And.intro (by omega) (by omega)) ?_)
      | false => repeat (first | (with_reducible first | refine W_seq fun K hK => ?_ | refine J_block ?_ | refine J_skip ?_ | refine J_exit ?_ | refine J_ret ?_ | refine J_region ?_  | refine J_drawn mixed (by kernel_rfl) ?_ | refine aApp_sl ?_ | refine aApp_old ?_ | refine J_c ?_ | refine Jc_true ?_ | refine Jc_false ?_ | exact Frz.f _ | (refine Kont.go (by assumption) ?_) | (simp (config := { maxSteps := 3000000 }) (disch := omega) only [go_sem, Nat.reduceEqDiff, ↓reduceIte, Nat.reduceAdd, Nat.reduceLT, Nat.reduceLeDiff, Int.reduceLT, Int.reduceLE, Int.reduceEq, Int.reduceNe, Int.reduceAdd, Int.reduceSub, Int.reduceMul, Int.reduceNeg, Int.reduceToNat, neq_bool2, hbn1])) | refine call_f (pickI _ _ (by omega) (by omega) (by omega) (by omega)) rfl ?_ | refine callQ_f (pickI _ _ (by omega) (by omega) (by omega) (by omega)) rfl ?_ | refine call_f (rmul_w (by assumption) (by assumption) (by omega) (by omega)) rfl ?_ | refine callQ_f (rmul_w (by assumption) (by assumption) (by omega) (by omega)) rfl ?_ | refine call_f (rof_frac (by omega) (by omega)) rfl ?_ | refine callQ_f (rof_frac (by omega) (by omega)) rfl ?_ | refine And.intro (by omega) ?_ | refine And.intro (And.intro (by omega) (by omega)) ?_)
    have hall := hun h1
    rw [decide_eq_true h1, lst_one hall hqt _ hq, hqr] at hcls
    rw [decide_eq_true h1] at hlast
    obtain ⟨l, hl⟩ : ∃ l, l = cls n (wsh (edg z) n) r := ⟨_, rfl⟩
    rw [← hl] at hlast hcls
    have hlm : ∀ s ∈ l, s < n := fun s hs => by rw [hl] at hs; exact (cls_mem.1 hs).1
    have hnd : l.Nodup := by rw [hl]; exact cls_nodup
    have hl0 : 0 < l.length := List.length_pos_of_mem (by rw [hl]; exact cls_self wsh_pre hr)
    have hln : l.length ≤ n := nodup_le hnd hlm
    have hirr := irr_cls zs hr hcr
    rw [← hl] at hirr
    obtain ⟨y, hy, hys, hy1⟩ := wSol_spec hirr rfl hl0 hnd
    have hsl : (wSol z l).length = l.length := by rw [hy]; simp
    have hstill := still_one_w zF (by decide) (by decide) (by omega) zchk hlast hl0 (by omega) (by rw [zlen]; exact hlm) (by omega)
    rw [hsl, zlen] at hstill
    have hsol : ∀ c, c < l.length → (wSol z l).getD c 0 = y c := fun c hc => by rw [hy]; simp [List.getD, hc]
    obtain ⟨p, hp⟩ : ∃ p, p = stF l (wSol z l) l.length := ⟨_, rfl⟩
    have hstat : Stat n (at2 z) p := by rw [hp]; exact stF_stat zs hr hcr hl hys hsol
    have hps1 : sumF p n = 1 := by rw [hp, stF_sum hl hsol]; exact hy1
    have hps : FV.fz 3 (stL n l (wSol z l) l.length) = frs ((List.range n).map p) := by unfold stL; rw [hp]; show _ = FV.fz 3 (((List.range n).map _).map fr); rw [List.map_map]; rfl
    rw [hps] at hstill
    have hszl : ∀ d, d ≤ 6 → szG 209 d ≤ 1000000 := by decide
    have hsz1 := hszl l.length (by omega)
    have hwf : Row (szG 209 l.length) (wSol z l) := wSol_fz (b := 200) zsq (by decide) (by rw [zlen]; exact hlm)
    have h209 := szG_ge (s := 209) l.length
    have htu := turns_w (s := szG 209 l.length) (p := p) zsq (by decide) (by decide) hsz1 (fun i _ => by rw [hp]; exact stF_fz hwf (by omega) (by omega)) (by rw [zlen]; exact hstill)
    rw [zlen] at htu
    obtain ⟨T, hT⟩ : ∃ T, T = turnB n p (at2 z) := ⟨_, rfl⟩
    rw [← hT] at htu
    have hevT : ev = true → T = true := fun he => by
      obtain ⟨w', hw0, hsym⟩ := zev he
      have hir2 : Irr n (at2 z) := ev_irr (q := q) (at2_nonneg zch) zs (fun i k hi hk h => by
        have h2 := hsym i k hi hk
        have h3 := Rat.mul_pos (hw0 i hi) h
        rw [h2] at h3
        refine Classical.byContradiction fun hn => ?_
        have h4 : at2 z k i = 0 := Rat.le_antisymm (Rat.not_lt.1 hn) (at2_nonneg zch k i)
        rw [h4, Rat.mul_zero] at h3
        exact Rat.lt_irrefl h3) hall
      rw [hT]
      exact turnB_iff.2 fun i hi k hk => even_rev hir2 (by omega) hw0 hsym hstat hps1 i k hi hk
    repeat (first | (with_reducible first | refine W_seq fun K hK => ?_ | refine J_block ?_ | refine J_skip ?_ | refine J_exit ?_ | refine J_ret ?_ | refine J_region ?_  | refine J_drawn mixed (by kernel_rfl) ?_ | refine aApp_sl ?_ | refine aApp_old ?_ | refine J_c ?_ | refine Jc_true ?_ | refine Jc_false ?_ | exact Frz.f _ | (refine Kont.go (by assumption) ?_) | (simp (config := { maxSteps := 3000000 }) (disch := omega) only [go_sem, Nat.reduceEqDiff, ↓reduceIte, Nat.reduceAdd, Nat.reduceLT, Nat.reduceLeDiff, Int.reduceLT, Int.reduceLE, Int.reduceEq, Int.reduceNe, Int.reduceAdd, Int.reduceSub, Int.reduceMul, Int.reduceNeg, Int.reduceToNat])) | refine call_f (pickI _ _ (by omega) (by omega) (by omega) (by omega)) rfl ?_ | refine callQ_f (pickI _ _ (by omega) (by omega) (by omega) (by omega)) rfl ?_ | refine call_f (rmul_w (by assumption) (by assumption) (by omega) (by omega)) rfl ?_ | refine callQ_f (rmul_w (by assumption) (by assumption) (by omega) (by omega)) rfl ?_ | refine call_f (rof_frac (by omega) (by omega)) rfl ?_ | refine callQ_f (rof_frac (by omega) (by omega)) rfl ?_ | refine And.intro (by omega) ?_ | refine And.intro (And.intro (by omega) (by omega)) ?_)
    refine call_f htu rfl ?_
    repeat (first | (with_reducible first | refine W_seq fun K hK => ?_ | refine J_block ?_ | refine J_skip ?_ | refine J_exit ?_ | refine J_ret ?_ | refine J_region ?_  | refine J_drawn mixed (by kernel_rfl) ?_ | refine aApp_sl ?_ | refine aApp_old ?_ | refine J_c ?_ | refine Jc_true ?_ | refine Jc_false ?_ | exact Frz.f _ | (refine Kont.go (by assumption) ?_) | (simp (config := { maxSteps := 3000000 }) (disch := omega) only [go_sem, Nat.reduceEqDiff, ↓reduceIte, Nat.reduceAdd, Nat.reduceLT, Nat.reduceLeDiff, Int.reduceLT, Int.reduceLE, Int.reduceEq, Int.reduceNe, Int.reduceAdd, Int.reduceSub, Int.reduceMul, Int.reduceNeg, Int.reduceToNat])) | refine call_f (pickI _ _ (by omega) (by omega) (by omega) (by omega)) rfl ?_ | refine callQ_f (pickI _ _ (by omega) (by omega) (by omega) (by omega)) rfl ?_ | refine call_f (rmul_w (by assumption) (by assumption) (by omega) (by omega)) rfl ?_ | refine callQ_f (rmul_w (by assumption) (by assumption) (by omega) (by omega)) rfl ?_ | refine call_f (rof_frac (by omega) (by omega)) rfl ?_ | refine callQ_f (rof_frac (by omega) (by omega)) rfl ?_ | refine And.intro (by omega) ?_ | refine And.intro (And.intro (by omega) (by omega)) ?_)
    refine call_f hcls rfl ?_
    cases T with
    | false =>
      have hef : ev = false := by
        cases ev with
        | false => rfl
        | true => exact absurd (hevT rfl) (by decide)
      subst hef
      repeat (first | (with_reducible first | refine W_seq fun K hK => ?_ | refine J_block ?_ | refine J_skip ?_ | refine J_exit ?_ | refine J_ret ?_ | refine J_region ?_  | refine J_drawn mixed (by kernel_rfl) ?_ | refine aApp_sl ?_ | refine aApp_old ?_ | refine J_c ?_ | refine Jc_true ?_ | refine Jc_false ?_ | exact Frz.f _ | (refine Kont.go (by assumption) ?_) | (simp (config := { maxSteps := 3000000 }) (disch := omega) only [go_sem, Nat.reduceEqDiff, ↓reduceIte, Nat.reduceAdd, Nat.reduceLT, Nat.reduceLeDiff, Int.reduceLT, Int.reduceLE, Int.reduceEq, Int.reduceNe, Int.reduceAdd, Int.reduceSub, Int.reduceMul, Int.reduceNeg, Int.reduceToNat, neq_bool2, hbn2])) | refine call_f (pickI _ _ (by omega) (by omega) (by omega) (by omega)) rfl ?_ | refine callQ_f (pickI _ _ (by omega) (by omega) (by omega) (by omega)) rfl ?_ | refine call_f (rmul_w (by assumption) (by assumption) (by omega) (by omega)) rfl ?_ | refine callQ_f (rmul_w (by assumption) (by assumption) (by omega) (by omega)) rfl ?_ | refine call_f (rof_frac (by omega) (by omega)) rfl ?_ | refine callQ_f (rof_frac (by omega) (by omega)) rfl ?_ | refine And.intro (by omega) ?_ | refine And.intro (And.intro (by omega) (by omega)) ?_)
    | true =>
      have htr := turnB_iff.1 hT.symm
      clear hevT zev
      obtain ⟨a, ha⟩ : ∃ a : Nat → Nat, a = fun j => l.getD (pickN (rd.getD j 0) l.length) 0 := ⟨_, rfl⟩
      have hpl : ∀ j, pickN (rd.getD j 0) l.length < l.length := fun j => pickN_lt _ hl0
      have ham : ∀ j, a j ∈ l := fun j => by rw [ha]; exact getD_mem (hpl j)
      have han : ∀ j, a j < n := fun j => hlm _ (ham j)
      have hpa : ∀ j, 0 < p (a j) := fun j => by
        rw [ha, hp]
        show 0 < stF l (wSol z l) l.length (l.getD _ 0)
        rw [stF_at hnd (Nat.le_refl _) (hpl j), hsol _ (hpl j)]
        exact stat_pos hirr hys hy1 _ (hpl j)
      obtain ⟨L, hL⟩ : ∃ L, L = rd.length := ⟨_, rfl⟩
      have hround := round_eq (n := L) (A := at2 z) (p := p) (a := a) (fun j _ => hpa j) fun i k _ _ => htr _ (han i) _ (han k)
      have hA : ∀ i k, i < n → k < n → Fz (at2 z i k) 200 := fun i k hi hk => zsq.f2 (by decide) (by omega) (by omega)
      have hz1 : fr ((1 : Int) : Rat) = fr (prodF (fun k => at2 z (a k) (a ((k + 1) % L))) 0) := rfl
      have hz2 : fr ((1 : Int) : Rat) = fr (prodF (fun k => at2 z (a ((k + 1) % L)) (a k)) 0) := rfl
      cases ev with
      | true =>
        repeat (first | (with_reducible first | refine W_seq fun K hK => ?_ | refine J_block ?_ | refine J_skip ?_ | refine J_exit ?_ | refine J_ret ?_ | refine J_region ?_  | refine J_drawn mixed (by kernel_rfl) ?_ | refine aApp_sl ?_ | refine aApp_old ?_ | refine J_c ?_ | refine Jc_true ?_ | refine Jc_false ?_ | exact Frz.f _ | (refine Kont.go (by assumption) ?_) | (simp (config := { maxSteps := 3000000 }) (disch := omega) only [go_sem, Nat.reduceEqDiff, ↓reduceIte, Nat.reduceAdd, Nat.reduceLT, Nat.reduceLeDiff, Int.reduceLT, Int.reduceLE, Int.reduceEq, Int.reduceNe, Int.reduceAdd, Int.reduceSub, Int.reduceMul, Int.reduceNeg, Int.reduceToNat, neq_bool2, hbn2])) | refine call_f (pickI _ _ (by omega) (by omega) (by omega) (by omega)) rfl ?_ | refine callQ_f (pickI _ _ (by omega) (by omega) (by omega) (by omega)) rfl ?_ | refine call_f (rmul_w (by assumption) (by assumption) (by omega) (by omega)) rfl ?_ | refine callQ_f (rmul_w (by assumption) (by assumption) (by omega) (by omega)) rfl ?_ | refine call_f (rof_frac (by omega) (by omega)) rfl ?_ | refine callQ_f (rof_frac (by omega) (by omega)) rfl ?_ | refine And.intro (by omega) ?_ | refine And.intro (And.intro (by omega) (by omega)) ?_)
        refine W_loop [16, 17, 18, 62, 63, 64, 65, 66, 67, 68, 69, 70, 71, 72, 73, 74, 75, 76, 77, 78, 79, 80, 81, 82, 83, 84, 85, 86, 87, 88, 89, 90, 91, 92, 93, 94, 95, 96, 97, 98, 99, 100, 101, 102, 103, 104, 105, 106, 107, 108, 109] (fun x : Nat => [(16, .f (I x))]) (fun x : Nat => [oF (fr (prodF (fun k => at2 z (a k) (a ((k + 1) % L))) x)), oF (fr (prodF (fun k => at2 z (a ((k + 1) % L)) (a k)) x))]) (fun x : Nat => x ≤ rd.length) (fun x : Nat => rd.length - x) (0) (Nat.zero_le _) (by refine weak_of ?_ ?_ <;> simp (disch := omega) only [go_sem, Nat.reduceAdd, Nat.reduceLT, Nat.reduceEqDiff] <;> first | rfl | exact ⟨rfl, rfl⟩ | exact Or.inl rfl | exact ⟨Or.inl rfl, Or.inl rfl⟩ | trivial | assumption | omega | (symm; assumption) | ((repeat' apply And.intro) <;> first | rfl | omega | trivial | exact .inr ⟨rfl, rfl⟩ | exact .inr rfl | (right; symm; assumption) | (symm; assumption) | assumption)) ?_
        rintro i hi
        simp only [go_sem, Nat.reduceAdd, Nat.reduceLT, Nat.reduceEqDiff]
        repeat (first | (with_reducible first | refine W_seq fun K hK => ?_ | refine J_block ?_ | refine J_skip ?_ | refine J_exit ?_ | refine J_ret ?_ | refine J_region ?_  | refine J_drawn mixed (by kernel_rfl) ?_ | refine aApp_sl ?_ | refine aApp_old ?_ | refine J_c ?_ | refine Jc_true ?_ | refine Jc_false ?_ | exact Frz.f _ | (refine Kont.go (by assumption) ?_) | (simp (config := { maxSteps := 3000000 }) (disch := omega) only [go_sem, Nat.reduceEqDiff, ↓reduceIte, Nat.reduceAdd, Nat.reduceLT, Nat.reduceLeDiff, Int.reduceLT, Int.reduceLE, Int.reduceEq, Int.reduceNe, Int.reduceAdd, Int.reduceSub, Int.reduceMul, Int.reduceNeg, Int.reduceToNat, List.length_map])) | refine call_f (pickI _ _ (by omega) (by omega) (by omega) (by omega)) rfl ?_ | refine callQ_f (pickI _ _ (by omega) (by omega) (by omega) (by omega)) rfl ?_ | refine call_f (rmul_w (by assumption) (by assumption) (by omega) (by omega)) rfl ?_ | refine callQ_f (rmul_w (by assumption) (by assumption) (by omega) (by omega)) rfl ?_ | refine call_f (rof_frac (by omega) (by omega)) rfl ?_ | refine callQ_f (rof_frac (by omega) (by omega)) rfl ?_ | refine And.intro (by omega) ?_ | refine And.intro (And.intro (by omega) (by omega)) ?_)
        refine Jc_if (fun hil => ?_) (fun hil => ?_) <;> try simp only [decide_eq_true_eq, decide_eq_false_iff_not, Bool.not_eq_true', Bool.not_eq_false', Bool.not_true, Bool.not_false, Int.ofNat_lt, Int.ofNat_le, Int.natCast_inj, Classical.not_not] at hil
        · have g1 := map_get I rd hil
          have b1 := i64_get hrd.2 hil
          have e1 : rd.getD i 0 = rd[i] := lget_lt rd 0 hil
          have hj : (i + 1) % rd.length < rd.length := Nat.mod_lt _ (by omega)
          obtain ⟨j, hjd⟩ : ∃ j, j = (i + 1) % rd.length := ⟨_, rfl⟩
          rw [← hjd] at hj
          have hmod : ((i : Int) + 1).tmod (rd.length : Int) = ((j : Nat) : Int) := by
            rw [hjd, tmod_nat (by omega), show ((i : Int) + 1).toNat = i + 1 by omega]
          have g2 := map_get I rd hj
          have b2 := i64_get hrd.2 hj
          have e2 : rd.getD j 0 = rd[j] := lget_lt rd 0 hj
          have g3 := Ns_get (l := l) (hpl i)
          have g4 := Ns_get (l := l) (hpl j)
          have a1 : l.getD (pickN (rd.getD i 0) l.length) 0 = a i := by rw [ha]
          have a2 : l.getD (pickN (rd.getD j 0) l.length) 0 = a j := by rw [ha]
          rw [a1, e1] at g3
          rw [a2, e2] at g4
          have c1 := hpl i
          have c2 := hpl j
          rw [e1] at c1
          rw [e2] at c2
          have n1 := han i
          have n2 := han j
          obtain ⟨xs, gg, nn, dd, z1, z2, z3⟩ := zsq.at2 (i := a i) (j := a j) (by omega) (by omega)
          obtain ⟨xs', gg', nn', dd', z1', z2', z3'⟩ := zsq.at2 (i := a j) (j := a i) (by omega) (by omega)
          have hLi : (i + 1) % L = j := by rw [hL, hjd]
          have f1 := IsFr.c (prodF_fz (n := i) (f := fun k => at2 z (a k) (a ((k + 1) % L))) (s := 200) fun k _ => hA _ _ (han _) (han _))
          have f2 := IsFr.c (prodF_fz (n := i) (f := fun k => at2 z (a ((k + 1) % L)) (a k)) (s := 200) fun k _ => hA _ _ (han _) (han _))
          have v1 : fr (prodF (fun k => at2 z (a k) (a ((k + 1) % L))) i * at2 z (a i) (a j)) = fr (prodF (fun k => at2 z (a k) (a ((k + 1) % L))) (i + 1)) := by rw [← hLi]; rfl
          have v2 : fr (prodF (fun k => at2 z (a ((k + 1) % L)) (a k)) i * at2 z (a j) (a i)) = fr (prodF (fun k => at2 z (a ((k + 1) % L)) (a k)) (i + 1)) := by rw [← hLi]; rfl
          repeat (first | (with_reducible first | refine W_seq fun K hK => ?_ | refine J_block ?_ | refine J_skip ?_ | refine J_exit ?_ | refine J_ret ?_ | refine J_region ?_  | refine J_drawn mixed (by kernel_rfl) ?_ | refine aApp_sl ?_ | refine aApp_old ?_ | refine J_c ?_ | refine Jc_true ?_ | refine Jc_false ?_ | exact Frz.f _ | (refine Kont.go (by assumption) ?_) | (simp (config := { maxSteps := 3000000 }) (disch := omega) only [go_sem, Nat.reduceEqDiff, ↓reduceIte, Nat.reduceAdd, Nat.reduceLT, Nat.reduceLeDiff, Int.reduceLT, Int.reduceLE, Int.reduceEq, Int.reduceNe, Int.reduceAdd, Int.reduceSub, Int.reduceMul, Int.reduceNeg, Int.reduceToNat, List.length_map, Ns_len, g1, hmod, g2, g3, g4, z1, z2, z1', z2', v1, v2, Nat.reduceMul, Nat.le_refl, true_and, and_true, and_self])) | refine call_f (pickI _ _ (by omega) (by omega) (by omega) (by omega)) rfl ?_ | refine callQ_f (pickI _ _ (by omega) (by omega) (by omega) (by omega)) rfl ?_ | refine call_f (rmul_w (by assumption) (by assumption) (by omega) (by omega)) rfl ?_ | refine callQ_f (rmul_w (by assumption) (by assumption) (by omega) (by omega)) rfl ?_ | refine call_f (rof_frac (by omega) (by omega)) rfl ?_ | refine callQ_f (rof_frac (by omega) (by omega)) rfl ?_ | refine And.intro (by omega) ?_ | refine And.intro (And.intro (by omega) (by omega)) ?_)
          refine ⟨i + 1, by omega, by omega, weak_of ?_ ?_⟩ <;> (try simp (disch := omega) only [go_sem, Nat.reduceAdd, Nat.reduceLT, Nat.reduceEqDiff]) <;> (try first | done | omega | rfl | exact ⟨rfl, rfl⟩ | trivial)
        · have he : i = L := by omega
          have hq0 : prodF (fun k => at2 z (a k) (a ((k + 1) % L))) i = prodF (fun k => at2 z (a ((k + 1) % L)) (a k)) i := by rw [he]; exact hround
          rw [hq0]
          repeat (first | (with_reducible first | refine W_seq fun K hK => ?_ | refine J_block ?_ | refine J_skip ?_ | refine J_exit ?_ | refine J_ret ?_ | refine J_region ?_  | refine J_drawn mixed (by kernel_rfl) ?_ | refine aApp_sl ?_ | refine aApp_old ?_ | refine J_c ?_ | refine Jc_true ?_ | refine Jc_false ?_ | exact Frz.f _ | (refine Kont.go (by assumption) ?_) | (simp (config := { maxSteps := 3000000 }) (disch := omega) only [go_sem, Nat.reduceEqDiff, ↓reduceIte, Nat.reduceAdd, Nat.reduceLT, Nat.reduceLeDiff, Int.reduceLT, Int.reduceLE, Int.reduceEq, Int.reduceNe, Int.reduceAdd, Int.reduceSub, Int.reduceMul, Int.reduceNeg, Int.reduceToNat])) | refine call_f (pickI _ _ (by omega) (by omega) (by omega) (by omega)) rfl ?_ | refine callQ_f (pickI _ _ (by omega) (by omega) (by omega) (by omega)) rfl ?_ | refine call_f (rmul_w (by assumption) (by assumption) (by omega) (by omega)) rfl ?_ | refine callQ_f (rmul_w (by assumption) (by assumption) (by omega) (by omega)) rfl ?_ | refine call_f (rof_frac (by omega) (by omega)) rfl ?_ | refine callQ_f (rof_frac (by omega) (by omega)) rfl ?_ | refine And.intro (by omega) ?_ | refine And.intro (And.intro (by omega) (by omega)) ?_)
          done
      | false =>
        repeat (first | (with_reducible first | refine W_seq fun K hK => ?_ | refine J_block ?_ | refine J_skip ?_ | refine J_exit ?_ | refine J_ret ?_ | refine J_region ?_  | refine J_drawn mixed (by kernel_rfl) ?_ | refine aApp_sl ?_ | refine aApp_old ?_ | refine J_c ?_ | refine Jc_true ?_ | refine Jc_false ?_ | exact Frz.f _ | (refine Kont.go (by assumption) ?_) | (simp (config := { maxSteps := 3000000 }) (disch := omega) only [go_sem, Nat.reduceEqDiff, ↓reduceIte, Nat.reduceAdd, Nat.reduceLT, Nat.reduceLeDiff, Int.reduceLT, Int.reduceLE, Int.reduceEq, Int.reduceNe, Int.reduceAdd, Int.reduceSub, Int.reduceMul, Int.reduceNeg, Int.reduceToNat, neq_bool2, hbn2])) | refine call_f (pickI _ _ (by omega) (by omega) (by omega) (by omega)) rfl ?_ | refine callQ_f (pickI _ _ (by omega) (by omega) (by omega) (by omega)) rfl ?_ | refine call_f (rmul_w (by assumption) (by assumption) (by omega) (by omega)) rfl ?_ | refine callQ_f (rmul_w (by assumption) (by assumption) (by omega) (by omega)) rfl ?_ | refine call_f (rof_frac (by omega) (by omega)) rfl ?_ | refine callQ_f (rof_frac (by omega) (by omega)) rfl ?_ | refine And.intro (by omega) ?_ | refine And.intro (And.intro (by omega) (by omega)) ?_)
        refine W_loop [16, 17, 18, 62, 63, 64, 65, 66, 67, 68, 69, 70, 71, 72, 73, 74, 75, 76, 77, 78, 79, 80, 81, 82, 83, 84, 85, 86, 87, 88, 89, 90, 91, 92, 93, 94, 95, 96, 97, 98, 99, 100, 101, 102, 103, 104, 105, 106, 107, 108, 109] (fun x : Nat => [(16, .f (I x))]) (fun x : Nat => [oF (fr (prodF (fun k => at2 z (a k) (a ((k + 1) % L))) x)), oF (fr (prodF (fun k => at2 z (a ((k + 1) % L)) (a k)) x))]) (fun x : Nat => x ≤ rd.length) (fun x : Nat => rd.length - x) (0) (Nat.zero_le _) (by refine weak_of ?_ ?_ <;> simp (disch := omega) only [go_sem, Nat.reduceAdd, Nat.reduceLT, Nat.reduceEqDiff] <;> first | rfl | exact ⟨rfl, rfl⟩ | exact Or.inl rfl | exact ⟨Or.inl rfl, Or.inl rfl⟩ | trivial | assumption | omega | (symm; assumption) | ((repeat' apply And.intro) <;> first | rfl | omega | trivial | exact .inr ⟨rfl, rfl⟩ | exact .inr rfl | (right; symm; assumption) | (symm; assumption) | assumption)) ?_
        rintro i hi
        simp only [go_sem, Nat.reduceAdd, Nat.reduceLT, Nat.reduceEqDiff]
        repeat (first | (with_reducible first | refine W_seq fun K hK => ?_ | refine J_block ?_ | refine J_skip ?_ | refine J_exit ?_ | refine J_ret ?_ | refine J_region ?_  | refine J_drawn mixed (by kernel_rfl) ?_ | refine aApp_sl ?_ | refine aApp_old ?_ | refine J_c ?_ | refine Jc_true ?_ | refine Jc_false ?_ | exact Frz.f _ | (refine Kont.go (by assumption) ?_) | (simp (config := { maxSteps := 3000000 }) (disch := omega) only [go_sem, Nat.reduceEqDiff, ↓reduceIte, Nat.reduceAdd, Nat.reduceLT, Nat.reduceLeDiff, Int.reduceLT, Int.reduceLE, Int.reduceEq, Int.reduceNe, Int.reduceAdd, Int.reduceSub, Int.reduceMul, Int.reduceNeg, Int.reduceToNat, List.length_map])) | refine call_f (pickI _ _ (by omega) (by omega) (by omega) (by omega)) rfl ?_ | refine callQ_f (pickI _ _ (by omega) (by omega) (by omega) (by omega)) rfl ?_ | refine call_f (rmul_w (by assumption) (by assumption) (by omega) (by omega)) rfl ?_ | refine callQ_f (rmul_w (by assumption) (by assumption) (by omega) (by omega)) rfl ?_ | refine call_f (rof_frac (by omega) (by omega)) rfl ?_ | refine callQ_f (rof_frac (by omega) (by omega)) rfl ?_ | refine And.intro (by omega) ?_ | refine And.intro (And.intro (by omega) (by omega)) ?_)
        refine Jc_if (fun hil => ?_) (fun hil => ?_) <;> try simp only [decide_eq_true_eq, decide_eq_false_iff_not, Bool.not_eq_true', Bool.not_eq_false', Bool.not_true, Bool.not_false, Int.ofNat_lt, Int.ofNat_le, Int.natCast_inj, Classical.not_not] at hil
        · have g1 := map_get I rd hil
          have b1 := i64_get hrd.2 hil
          have e1 : rd.getD i 0 = rd[i] := lget_lt rd 0 hil
          have hj : (i + 1) % rd.length < rd.length := Nat.mod_lt _ (by omega)
          obtain ⟨j, hjd⟩ : ∃ j, j = (i + 1) % rd.length := ⟨_, rfl⟩
          rw [← hjd] at hj
          have hmod : ((i : Int) + 1).tmod (rd.length : Int) = ((j : Nat) : Int) := by
            rw [hjd, tmod_nat (by omega), show ((i : Int) + 1).toNat = i + 1 by omega]
          have g2 := map_get I rd hj
          have b2 := i64_get hrd.2 hj
          have e2 : rd.getD j 0 = rd[j] := lget_lt rd 0 hj
          have g3 := Ns_get (l := l) (hpl i)
          have g4 := Ns_get (l := l) (hpl j)
          have a1 : l.getD (pickN (rd.getD i 0) l.length) 0 = a i := by rw [ha]
          have a2 : l.getD (pickN (rd.getD j 0) l.length) 0 = a j := by rw [ha]
          rw [a1, e1] at g3
          rw [a2, e2] at g4
          have c1 := hpl i
          have c2 := hpl j
          rw [e1] at c1
          rw [e2] at c2
          have n1 := han i
          have n2 := han j
          obtain ⟨xs, gg, nn, dd, z1, z2, z3⟩ := zsq.at2 (i := a i) (j := a j) (by omega) (by omega)
          obtain ⟨xs', gg', nn', dd', z1', z2', z3'⟩ := zsq.at2 (i := a j) (j := a i) (by omega) (by omega)
          have hLi : (i + 1) % L = j := by rw [hL, hjd]
          have f1 := IsFr.c (prodF_fz (n := i) (f := fun k => at2 z (a k) (a ((k + 1) % L))) (s := 200) fun k _ => hA _ _ (han _) (han _))
          have f2 := IsFr.c (prodF_fz (n := i) (f := fun k => at2 z (a ((k + 1) % L)) (a k)) (s := 200) fun k _ => hA _ _ (han _) (han _))
          have v1 : fr (prodF (fun k => at2 z (a k) (a ((k + 1) % L))) i * at2 z (a i) (a j)) = fr (prodF (fun k => at2 z (a k) (a ((k + 1) % L))) (i + 1)) := by rw [← hLi]; rfl
          have v2 : fr (prodF (fun k => at2 z (a ((k + 1) % L)) (a k)) i * at2 z (a j) (a i)) = fr (prodF (fun k => at2 z (a ((k + 1) % L)) (a k)) (i + 1)) := by rw [← hLi]; rfl
          repeat (first | (with_reducible first | refine W_seq fun K hK => ?_ | refine J_block ?_ | refine J_skip ?_ | refine J_exit ?_ | refine J_ret ?_ | refine J_region ?_  | refine J_drawn mixed (by kernel_rfl) ?_ | refine aApp_sl ?_ | refine aApp_old ?_ | refine J_c ?_ | refine Jc_true ?_ | refine Jc_false ?_ | exact Frz.f _ | (refine Kont.go (by assumption) ?_) | (simp (config := { maxSteps := 3000000 }) (disch := omega) only [go_sem, Nat.reduceEqDiff, ↓reduceIte, Nat.reduceAdd, Nat.reduceLT, Nat.reduceLeDiff, Int.reduceLT, Int.reduceLE, Int.reduceEq, Int.reduceNe, Int.reduceAdd, Int.reduceSub, Int.reduceMul, Int.reduceNeg, Int.reduceToNat, List.length_map, Ns_len, g1, hmod, g2, g3, g4, z1, z2, z1', z2', v1, v2, Nat.reduceMul, Nat.le_refl, true_and, and_true, and_self])) | refine call_f (pickI _ _ (by omega) (by omega) (by omega) (by omega)) rfl ?_ | refine callQ_f (pickI _ _ (by omega) (by omega) (by omega) (by omega)) rfl ?_ | refine call_f (rmul_w (by assumption) (by assumption) (by omega) (by omega)) rfl ?_ | refine callQ_f (rmul_w (by assumption) (by assumption) (by omega) (by omega)) rfl ?_ | refine call_f (rof_frac (by omega) (by omega)) rfl ?_ | refine callQ_f (rof_frac (by omega) (by omega)) rfl ?_ | refine And.intro (by omega) ?_ | refine And.intro (And.intro (by omega) (by omega)) ?_)
          refine ⟨i + 1, by omega, by omega, weak_of ?_ ?_⟩ <;> (try simp (disch := omega) only [go_sem, Nat.reduceAdd, Nat.reduceLT, Nat.reduceEqDiff]) <;> (try first | done | omega | rfl | exact ⟨rfl, rfl⟩ | trivial)
        · have he : i = L := by omega
          have hq0 : prodF (fun k => at2 z (a k) (a ((k + 1) % L))) i = prodF (fun k => at2 z (a ((k + 1) % L)) (a k)) i := by rw [he]; exact hround
          rw [hq0]
          repeat (first | (with_reducible first | refine W_seq fun K hK => ?_ | refine J_block ?_ | refine J_skip ?_ | refine J_exit ?_ | refine J_ret ?_ | refine J_region ?_  | refine J_drawn mixed (by kernel_rfl) ?_ | refine aApp_sl ?_ | refine aApp_old ?_ | refine J_c ?_ | refine Jc_true ?_ | refine Jc_false ?_ | exact Frz.f _ | (refine Kont.go (by assumption) ?_) | (simp (config := { maxSteps := 3000000 }) (disch := omega) only [go_sem, Nat.reduceEqDiff, ↓reduceIte, Nat.reduceAdd, Nat.reduceLT, Nat.reduceLeDiff, Int.reduceLT, Int.reduceLE, Int.reduceEq, Int.reduceNe, Int.reduceAdd, Int.reduceSub, Int.reduceMul, Int.reduceNeg, Int.reduceToNat])) | refine call_f (pickI _ _ (by omega) (by omega) (by omega) (by omega)) rfl ?_ | refine callQ_f (pickI _ _ (by omega) (by omega) (by omega) (by omega)) rfl ?_ | refine call_f (rmul_w (by assumption) (by assumption) (by omega) (by omega)) rfl ?_ | refine callQ_f (rmul_w (by assumption) (by assumption) (by omega) (by omega)) rfl ?_ | refine call_f (rof_frac (by omega) (by omega)) rfl ?_ | refine callQ_f (rof_frac (by omega) (by omega)) rfl ?_ | refine And.intro (by omega) ?_ | refine And.intro (And.intro (by omega) (by omega)) ?_)
          done
end Go.Proofs.YtabmgfchkcmcmaaDoor
