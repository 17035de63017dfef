/- What stands still within a closed class: walked. Conditions: numbers of 10^4 bytes each. -/
import Derived.Test.YtabmgfchkcmcmaaDoorZClaW
set_option linter.unusedVariables false
set_option linter.unusedSimpArgs false
namespace Go.Proofs.YtabmgfchkcmcmaaDoor
open Go Go.RowKit
set_option maxRecDepth 100000 in
theorem last_w {b : Nat} {ys : List FV} {m : List (List Rat)} {p : Nat} (hm : FrM b ys m) (h1 : 1 ≤ b) (hb : b ≤ 1000000) (hmx : m.length ≤ 140737488355328) (h0 : chkM m = 0)
    (hp : p < (shutL m.length (wsh (edg m) m.length) m.length).length) (hpt : (shutL m.length (wsh (edg m) m.length) m.length).getD p false = true) (hpf : ∀ j, j < p → (shutL m.length (wsh (edg m) m.length) m.length).getD j false = false) :
    Good Tryd.prog 148 [.fz 1 ys] (.tup [.fz 1 (Ns ((repL m.length (wsh (edg m) m.length) m.length).getD p [])), Bo (!decide (0 ≤ firstI (fun i => ((shutL m.length (wsh (edg m) m.length) m.length).drop (p + 1)).getD i false) ((shutL m.length (wsh (edg m) m.length) m.length).drop (p + 1)).length))]) := by
  have hc := classes_w hm h1 hb hmx h0
  have hn6 := (chk_sq hm h0).1.le
  obtain ⟨n, hn⟩ : ∃ n, n = m.length := ⟨_, rfl⟩
  rw [← hn] at hc hp hpt hpf hn6 ⊢
  obtain ⟨R, hR⟩ : ∃ R, R = wsh (edg m) n := ⟨_, rfl⟩
  rw [← hR] at hc hp hpt hpf ⊢
  have hsl : (shutL n R n).length ≤ 6 := by have := shutF_len (n := n) (R := R) (x := n); unfold shutF at this; rw [List.length_map] at this; omega
  have hrs : (repL n R n).length = (shutL n R n).length := by unfold repL shutL; rw [List.length_map, List.length_map]
  obtain ⟨S, hS⟩ : ∃ S, S = shutL n R n := ⟨_, rfl⟩
  have hSF : shutF n R n = S.map Bo := by rw [hS]; rfl
  rw [← hS] at hp hpt hpf hsl hrs ⊢
  rw [hSF] at hc
  have hi := index_w (bs := S) (by omega)
  rw [firstI_some hp hpt hpf] at hi
  have hct := contains_w (bs := S.drop (p + 1)) (by rw [List.length_drop]; omega)
  have g1 : (repF n R n)[p]? = some (.fz 1 (Ns ((repL n R n).getD p []))) := by
    have hpr : p < (repL n R n).length := by omega
    unfold repF
    rw [List.getElem?_map, List.getElem?_eq_getElem hpr, lget_lt _ [] hpr]; rfl
  have g2 : (repF n R n).length = S.length := by unfold repF; rw [List.length_map]; exact hrs
  have g3 : ((S.map Bo).drop (p + 1)) = (S.drop (p + 1)).map Bo := by rw [List.map_drop]
  refine good_of Tryd.func148 rfl (by kernel_rfl) fun X hO => ?_; rw [Tryd.ntmps148, Tryd.results148]; simp only [ast0, List.map_cons, List.map_nil, List.length_cons, List.length_nil, Nat.reduceAdd, Nat.reduceSub, List.replicate_succ, List.replicate_zero, List.cons_append, List.nil_append]
  repeat (first | (with_reducible first | refine W_seq fun K hK => ?_ | refine J_block ?_ | refine J_skip ?_ | refine J_exit ?_ | refine J_ret ?_ | refine J_region ?_  | refine J_drawn mixed (by kernel_rfl) ?_ | refine aApp_sl ?_ | refine aApp_old ?_ | refine J_c ?_ | refine Jc_true ?_ | refine Jc_false ?_ | exact Frz.f _ | (refine Kont.go (by assumption) ?_) | (simp (config := { maxSteps := 3000000 }) (disch := omega) only [go_sem, Nat.reduceEqDiff, ↓reduceIte, Nat.reduceAdd, Nat.reduceLT, Nat.reduceLeDiff, Int.reduceLT, Int.reduceLE, Int.reduceEq, Int.reduceNe, Int.reduceAdd, Int.reduceSub, Int.reduceMul, Int.reduceNeg, Int.reduceToNat])) | refine And.intro (by omega) ?_ | refine And.intro (And.intro (by omega) (by omega)) ?_)
  refine call_f hc rfl ?_
  repeat (first | (with_reducible first | refine W_seq fun K hK => ?_ | refine J_block ?_ | refine J_skip ?_ | refine J_exit ?_ | refine J_ret ?_ | refine J_region ?_  | refine J_drawn mixed (by kernel_rfl) ?_ | refine aApp_sl ?_ | refine aApp_old ?_ | refine J_c ?_ | refine Jc_true ?_ | refine Jc_false ?_ | exact Frz.f _ | (refine Kont.go (by assumption) ?_) | (simp (config := { maxSteps := 3000000 }) (disch := omega) only [go_sem, Nat.reduceEqDiff, ↓reduceIte, Nat.reduceAdd, Nat.reduceLT, Nat.reduceLeDiff, Int.reduceLT, Int.reduceLE, Int.reduceEq, Int.reduceNe, Int.reduceAdd, Int.reduceSub, Int.reduceMul, Int.reduceNeg, Int.reduceToNat])) | refine And.intro (by omega) ?_ | refine And.intro (And.intro (by omega) (by omega)) ?_)
  refine call_f hi rfl ?_
  have e1 : ((p : Int) + 1).toNat = p + 1 := by omega
  have e2 : ((S.length : Int) - ((p : Int) + 1)).toNat = S.length - (p + 1) := by omega
  have g4 : ((S.drop (p + 1)).map Bo).take (S.length - (p + 1)) = (S.drop (p + 1)).map Bo := List.take_of_length_le (by rw [List.length_map, List.length_drop]; exact Nat.le_refl _)
  repeat (first | (with_reducible first | refine W_seq fun K hK => ?_ | refine J_block ?_ | refine J_skip ?_ | refine J_exit ?_ | refine J_ret ?_ | refine J_region ?_  | refine J_drawn mixed (by kernel_rfl) ?_ | refine aApp_sl ?_ | refine aApp_old ?_ | refine J_c ?_ | refine Jc_true ?_ | refine Jc_false ?_ | exact Frz.f _ | (refine Kont.go (by assumption) ?_) | (simp (config := { maxSteps := 3000000 }) (disch := omega) only [go_sem, Nat.reduceEqDiff, ↓reduceIte, Nat.reduceAdd, Nat.reduceLT, Nat.reduceLeDiff, Int.reduceLT, Int.reduceLE, Int.reduceEq, Int.reduceNe, Int.reduceAdd, Int.reduceSub, Int.reduceMul, Int.reduceNeg, Int.reduceToNat, g1, g2, g3, e1, e2, g4, List.length_map, Nat.reduceMul, Nat.le_refl, true_and, and_true, and_self])) | refine And.intro (by omega) ?_ | refine And.intro (And.intro (by omega) (by omega)) ?_)
  refine callQ_f hct rfl ?_
  repeat (first | (with_reducible first | refine W_seq fun K hK => ?_ | refine J_block ?_ | refine J_skip ?_ | refine J_exit ?_ | refine J_ret ?_ | refine J_region ?_  | refine J_drawn mixed (by kernel_rfl) ?_ | refine aApp_sl ?_ | refine aApp_old ?_ | refine J_c ?_ | refine Jc_true ?_ | refine Jc_false ?_ | exact Frz.f _ | (refine Kont.go (by assumption) ?_) | (simp (config := { maxSteps := 3000000 }) (disch := omega) only [go_sem, Nat.reduceEqDiff, ↓reduceIte, Nat.reduceAdd, Nat.reduceLT, Nat.reduceLeDiff, Int.reduceLT, Int.reduceLE, Int.reduceEq, Int.reduceNe, Int.reduceAdd, Int.reduceSub, Int.reduceMul, Int.reduceNeg, Int.reduceToNat])) | refine And.intro (by omega) ?_ | refine And.intro (And.intro (by omega) (by omega)) ?_)
  exact ⟨_, rfl, FrzL.fs [_, _]⟩
def wM (m : List (List Rat)) (l : List Nat) : Mx := fun i k => if i = 0 then 1 else at2 m (l.getD k 0) (l.getD i 0) - (if l.getD k 0 = l.getD i 0 then 1 else 0)
def wTo (m : List (List Rat)) (l : List Nat) (i x : Nat) : List FV := (List.range x).map fun k => fr (wM m l i k)
def wR (m : List (List Rat)) (l : List Nat) (i : Nat) : List Rat := (List.range l.length).map (wM m l i)
def wB (i : Nat) : Rat := if i = 0 then 1 else 0
section
variable {m : List (List Rat)} {l : List Nat} {i x : Nat}
theorem wTo_zero : wTo m l i 0 = [] := rfl
theorem wTo_len : (wTo m l i x).length = x := by simp [wTo]
theorem wTo_next : wTo m l i x ++ [fr (wM m l i x)] = wTo m l i (x + 1) := by simp [wTo, List.range_succ]
end
attribute [go_sem] wTo_zero
def wSol (m : List (List Rat)) (l : List Nat) : List Rat := solR ((List.range l.length).map (wR m l)) ((List.range l.length).map wB)
set_option maxRecDepth 100000 in
set_option maxHeartbeats 8000000 in
theorem within_w {b : Nat} {ys : List FV} {m : List (List Rat)} {l : List Nat} (hm : SqM b ys m) (h1 : 1 ≤ b) (hb : b ≤ 10000) (hl1 : 1 ≤ l.length) (hl6 : l.length ≤ 6) (hlm : ∀ s ∈ l, s < m.length) :
    Good Tryd.prog 149 [.fz 1 ys, .fz 1 (Ns l)] (frs (wSol m l)) := by
  obtain ⟨n, hn⟩ : ∃ n, n = l.length := ⟨_, rfl⟩
  have hNl : (Ns l).length = n := by unfold Ns; rw [List.length_map]; exact hn.symm
  have hNg : ∀ q, q < n → (Ns l)[q]? = some (I (l.getD q 0 : Nat)) := fun q hq => by unfold Ns; rw [map_get (fun k : Nat => I (k : Int)) l (by omega), lget_lt l 0 (by omega)]
  have hgl : ∀ q, q < n → l.getD q 0 < m.length := fun q hq => by rw [lget_lt l 0 (by omega)]; exact hlm _ (List.getElem_mem _)
  have hz1 : List.replicate n (AV.f nilV) = (fillL n 0 (fun i => frs (wR m l i)) nilV).map .f := by rw [fill_zero, List.map_replicate]
  have hz2 : ∀ z, List.replicate n (AV.f z) = (fillL n 0 (fun i => fr (wB i)) z).map .f := fun z => by rw [fill_zero, List.map_replicate]
  refine good_of Tryd.func149 rfl (by kernel_rfl) fun X hO => ?_; rw [Tryd.ntmps149, Tryd.results149]; simp only [ast0, List.map_cons, List.map_nil, List.length_cons, List.length_nil, Nat.reduceAdd, Nat.reduceSub, List.replicate_succ, List.replicate_zero, List.cons_append, List.nil_append]
  repeat (first | (with_reducible first | refine W_seq fun K hK => ?_ | refine J_block ?_ | refine J_skip ?_ | refine J_exit ?_ | refine J_ret ?_ | refine J_region ?_ | refine J_orders (id := 1) [2, 5] (.one 0 (.one 1 (.one 3 (.one 4 (.br (.alt 2 (.one 6 (.one 5 (.one 7 .leaf))) (.alt 5 (.one 2 (.one 6 (.one 7 .leaf))) .fin))))))) mixed (by kernel_rfl) ?_ | refine J_orders (id := 12) [8] (.one 0 (.one 1 (.one 2 (.one 3 (.one 4 (.one 5 (.one 6 (.one 7 (.one 8 (.one 9 (.one 10 .leaf))))))))))) mixed (by kernel_rfl) ?_  | refine J_drawn mixed (by kernel_rfl) ?_ | refine aApp_sl ?_ | refine aApp_old ?_ | refine J_c ?_ | refine Jc_true ?_ | refine Jc_false ?_ | exact Frz.f _ | (refine Kont.go (by assumption) ?_) | (simp (config := { maxSteps := 3000000 }) (disch := omega) only [go_sem, Nat.reduceEqDiff, ↓reduceIte, Nat.reduceAdd, Nat.reduceLT, Nat.reduceLeDiff, Int.reduceLT, Int.reduceLE, Int.reduceEq, Int.reduceNe, Int.reduceAdd, Int.reduceSub, Int.reduceMul, Int.reduceNeg, Int.reduceToNat, hNl, hz1, hz2, Nat.reduceMul, Nat.le_refl, true_and, and_true, and_self])) | refine call_f (of_good (by omega) (by omega)) rfl ?_ | refine callQ_f (of_good (by omega) (by omega)) rfl ?_ | refine call_f (sub_w (by assumption) (by assumption) (by omega) (by omega)) rfl ?_ | refine callQ_f (sub_w (by assumption) (by assumption) (by omega) (by omega)) rfl ?_ | refine And.intro (by omega) ?_ | refine And.intro (And.intro (by omega) (by omega)) ?_)
  refine (fun h : _ ∧ _ => ⟨⟨by omega, by omega, h.1⟩, by omega, by omega, h.2⟩) (kont_two (by assumption) (weak_ren [1, 0] ⟨by decide, by first | decide | (simp; done)⟩ ?_ ?_) ?_)
  · simp (disch := omega) only [go_sem, Nat.reduceAdd, Nat.reduceLT, Nat.reduceEqDiff]
  · simp (disch := omega) only [go_sem, Nat.reduceAdd, Nat.reduceLT, Nat.reduceEqDiff]
  obtain ⟨zf, hzf⟩ : ∃ zf : FV, zf = .agg [.v (.bool false), .v (.string ⟨#[]⟩), .v (.string ⟨#[]⟩)] := ⟨_, rfl⟩
  rw [← hzf]
  repeat (first | (with_reducible first | refine W_seq fun K hK => ?_ | refine J_block ?_ | refine J_skip ?_ | refine J_exit ?_ | refine J_ret ?_ | refine J_region ?_ | refine J_orders (id := 1) [2, 5] (.one 0 (.one 1 (.one 3 (.one 4 (.br (.alt 2 (.one 6 (.one 5 (.one 7 .leaf))) (.alt 5 (.one 2 (.one 6 (.one 7 .leaf))) .fin))))))) mixed (by kernel_rfl) ?_ | refine J_orders (id := 12) [8] (.one 0 (.one 1 (.one 2 (.one 3 (.one 4 (.one 5 (.one 6 (.one 7 (.one 8 (.one 9 (.one 10 .leaf))))))))))) mixed (by kernel_rfl) ?_  | refine J_drawn mixed (by kernel_rfl) ?_ | refine aApp_sl ?_ | refine aApp_old ?_ | refine J_c ?_ | refine Jc_true ?_ | refine Jc_false ?_ | exact Frz.f _ | (refine Kont.go (by assumption) ?_) | (simp (config := { maxSteps := 3000000 }) (disch := omega) only [go_sem, Nat.reduceEqDiff, ↓reduceIte, Nat.reduceAdd, Nat.reduceLT, Nat.reduceLeDiff, Int.reduceLT, Int.reduceLE, Int.reduceEq, Int.reduceNe, Int.reduceAdd, Int.reduceSub, Int.reduceMul, Int.reduceNeg, Int.reduceToNat, hNl, Nat.reduceMul, Nat.le_refl, true_and, and_true, and_self])) | refine call_f (of_good (by omega) (by omega)) rfl ?_ | refine callQ_f (of_good (by omega) (by omega)) rfl ?_ | refine call_f (sub_w (by assumption) (by assumption) (by omega) (by omega)) rfl ?_ | refine callQ_f (sub_w (by assumption) (by assumption) (by omega) (by omega)) rfl ?_ | refine And.intro (by omega) ?_ | refine And.intro (And.intro (by omega) (by omega)) ?_)
  refine W_loop [7, 8, 10, 11, 20, 21, 22, 23, 24, 25, 26, 27, 28, 29, 30, 31, 32, 33, 34, 35, 36, 37, 38, 39, 40, 41, 42, 43, 44, 45, 46, 47, 48, 49, 50, 51, 52, 53, 54, 55, 56, 57, 58, 59, 60, 61, 62, 63, 64, 65] (fun x : Nat => [(20, .f (I x))]) (fun x : Nat => [some ⟨49, 1, (fillL n x (fun i => frs (wR m l i)) nilV).map .f⟩, some ⟨55, 3, (fillL n x (fun i => fr (wB i)) zf).map .f⟩]) (fun x : Nat => x ≤ n) (fun x : Nat => n - x) (0) (Nat.zero_le _) (by refine weak_of ?_ ?_ <;> simp (disch := omega) only [go_sem, Nat.reduceAdd, Nat.reduceLT, Nat.reduceEqDiff] <;> first | rfl | exact ⟨rfl, rfl⟩ | exact Or.inl rfl | exact ⟨Or.inl rfl, Or.inl rfl⟩ | trivial | assumption | omega | (symm; assumption) | ((repeat' apply And.intro) <;> first | rfl | omega | trivial | assumption)) ?_
  rintro i hi
  simp only [go_sem, Nat.reduceAdd, Nat.reduceLT, Nat.reduceEqDiff]
  repeat (first | (with_reducible first | refine W_seq fun K hK => ?_ | refine J_block ?_ | refine J_skip ?_ | refine J_exit ?_ | refine J_ret ?_ | refine J_region ?_ | refine J_orders (id := 1) [2, 5] (.one 0 (.one 1 (.one 3 (.one 4 (.br (.alt 2 (.one 6 (.one 5 (.one 7 .leaf))) (.alt 5 (.one 2 (.one 6 (.one 7 .leaf))) .fin))))))) mixed (by kernel_rfl) ?_ | refine J_orders (id := 12) [8] (.one 0 (.one 1 (.one 2 (.one 3 (.one 4 (.one 5 (.one 6 (.one 7 (.one 8 (.one 9 (.one 10 .leaf))))))))))) mixed (by kernel_rfl) ?_  | refine J_drawn mixed (by kernel_rfl) ?_ | refine aApp_sl ?_ | refine aApp_old ?_ | refine J_c ?_ | refine Jc_true ?_ | refine Jc_false ?_ | exact Frz.f _ | (refine Kont.go (by assumption) ?_) | (simp (config := { maxSteps := 3000000 }) (disch := omega) only [go_sem, Nat.reduceEqDiff, ↓reduceIte, Nat.reduceAdd, Nat.reduceLT, Nat.reduceLeDiff, Int.reduceLT, Int.reduceLE, Int.reduceEq, Int.reduceNe, Int.reduceAdd, Int.reduceSub, Int.reduceMul, Int.reduceNeg, Int.reduceToNat, hNl, Nat.reduceMul, Nat.le_refl, true_and, and_true, and_self])) | refine call_f (of_good (by omega) (by omega)) rfl ?_ | refine callQ_f (of_good (by omega) (by omega)) rfl ?_ | refine call_f (sub_w (by assumption) (by assumption) (by omega) (by omega)) rfl ?_ | refine callQ_f (sub_w (by assumption) (by assumption) (by omega) (by omega)) rfl ?_ | refine And.intro (by omega) ?_ | refine And.intro (And.intro (by omega) (by omega)) ?_)
  refine Jc_if (fun hil => ?_) (fun hil => ?_) <;> try simp only [decide_eq_true_eq, decide_eq_false_iff_not, Bool.not_eq_true', Bool.not_eq_false', Bool.not_true, Bool.not_false, Int.ofNat_lt, Int.ofNat_le, Int.natCast_inj, Classical.not_not] at hil
  · have g1 := hNg i hil
    have hone := chone_w (decide (i = 0))
    repeat (first | (with_reducible first | refine W_seq fun K hK => ?_ | refine J_block ?_ | refine J_skip ?_ | refine J_exit ?_ | refine J_ret ?_ | refine J_region ?_ | refine J_orders (id := 1) [2, 5] (.one 0 (.one 1 (.one 3 (.one 4 (.br (.alt 2 (.one 6 (.one 5 (.one 7 .leaf))) (.alt 5 (.one 2 (.one 6 (.one 7 .leaf))) .fin))))))) mixed (by kernel_rfl) ?_ | refine J_orders (id := 12) [8] (.one 0 (.one 1 (.one 2 (.one 3 (.one 4 (.one 5 (.one 6 (.one 7 (.one 8 (.one 9 (.one 10 .leaf))))))))))) mixed (by kernel_rfl) ?_  | refine J_drawn mixed (by kernel_rfl) ?_ | refine aApp_sl ?_ | refine aApp_old ?_ | refine J_c ?_ | refine Jc_true ?_ | refine Jc_false ?_ | exact Frz.f _ | (refine Kont.go (by assumption) ?_) | (simp (config := { maxSteps := 3000000 }) (disch := omega) only [go_sem, Nat.reduceEqDiff, ↓reduceIte, Nat.reduceAdd, Nat.reduceLT, Nat.reduceLeDiff, Int.reduceLT, Int.reduceLE, Int.reduceEq, Int.reduceNe, Int.reduceAdd, Int.reduceSub, Int.reduceMul, Int.reduceNeg, Int.reduceToNat, hNl, g1, Int.natCast_inj, Nat.reduceMul, Nat.le_refl, true_and, and_true, and_self])) | refine call_f (of_good (by omega) (by omega)) rfl ?_ | refine callQ_f (of_good (by omega) (by omega)) rfl ?_ | refine call_f (sub_w (by assumption) (by assumption) (by omega) (by omega)) rfl ?_ | refine callQ_f (sub_w (by assumption) (by assumption) (by omega) (by omega)) rfl ?_ | refine And.intro (by omega) ?_ | refine And.intro (And.intro (by omega) (by omega)) ?_)
    refine call_f hone rfl ?_
    obtain ⟨c, hc⟩ : ∃ c : Int, c = if decide (i = 0) = true then 1 else 0 := ⟨_, rfl⟩
    have hc1 : 0 ≤ c ∧ c ≤ 1 := by rw [hc]; split <;> omega
    rw [← hc]
    have ec : fr ((c : Int) : Rat) = fr (wB i) := by
      congr 1
      rw [hc]
      unfold wB
      by_cases e : i = 0
      · rw [if_pos e, if_pos (by simpa using e)]; rfl
      · rw [if_neg e, if_neg (by simpa using e)]; rfl
    have hfs := fillA_set (n := n) (k := i) (f := fun i => fr (wB i)) (z := zf) hil rfl
    have hfg : ((fillL n i (fun i => fr (wB i)) zf).map AV.f)[i]? = some (.f zf) := by rw [fillA_get hil, if_neg (by omega)]
    have hf2 : (fillL n i (fun i => fr (wB i)) zf).length = n := fill_len
    repeat (first | (with_reducible first | refine W_seq fun K hK => ?_ | refine J_block ?_ | refine J_skip ?_ | refine J_exit ?_ | refine J_ret ?_ | refine J_region ?_ | refine J_orders (id := 1) [2, 5] (.one 0 (.one 1 (.one 3 (.one 4 (.br (.alt 2 (.one 6 (.one 5 (.one 7 .leaf))) (.alt 5 (.one 2 (.one 6 (.one 7 .leaf))) .fin))))))) mixed (by kernel_rfl) ?_ | refine J_orders (id := 12) [8] (.one 0 (.one 1 (.one 2 (.one 3 (.one 4 (.one 5 (.one 6 (.one 7 (.one 8 (.one 9 (.one 10 .leaf))))))))))) mixed (by kernel_rfl) ?_  | refine J_drawn mixed (by kernel_rfl) ?_ | refine aApp_sl ?_ | refine aApp_old ?_ | refine J_c ?_ | refine Jc_true ?_ | refine Jc_false ?_ | exact Frz.f _ | (refine Kont.go (by assumption) ?_) | (simp (config := { maxSteps := 3000000 }) (disch := omega) only [go_sem, Nat.reduceEqDiff, ↓reduceIte, Nat.reduceAdd, Nat.reduceLT, Nat.reduceLeDiff, Int.reduceLT, Int.reduceLE, Int.reduceEq, Int.reduceNe, Int.reduceAdd, Int.reduceSub, Int.reduceMul, Int.reduceNeg, Int.reduceToNat, hNl, g1, ec, hfs, hf2, hfg, Nat.reduceMul, Nat.le_refl, true_and, and_true, and_self])) | refine call_f (of_good (by omega) (by omega)) rfl ?_ | refine callQ_f (of_good (by omega) (by omega)) rfl ?_ | refine call_f (sub_w (by assumption) (by assumption) (by omega) (by omega)) rfl ?_ | refine callQ_f (sub_w (by assumption) (by assumption) (by omega) (by omega)) rfl ?_ | refine And.intro (by omega) ?_ | refine And.intro (And.intro (by omega) (by omega)) ?_)
    refine J_reserve ?_
    rw [fillA_z hil]
    refine W_loop [10, 11, 34, 35, 36, 37, 38, 39, 40, 41, 42, 43, 44, 45, 46, 47, 48, 49, 50, 51, 52, 53, 54, 55, 56, 57, 58, 59, 60, 61, 62, 63, 64] (fun x : Nat => [(34, .f (I x))]) (fun x : Nat => [some ⟨49, 1, ((fillL n i (fun i => frs (wR m l i)) nilV).map .f).set i (sl 2 3 (wTo m l i x))⟩, some ⟨55, 3, (fillL n (i + 1) (fun i => fr (wB i)) zf).map .f⟩, ob 55 3 (wTo m l i x)]) (fun x : Nat => x ≤ n) (fun x : Nat => n - x) (0) (Nat.zero_le _) (by refine weak_of ?_ ?_ <;> simp (disch := omega) only [go_sem, Nat.reduceAdd, Nat.reduceLT, Nat.reduceEqDiff] <;> first | rfl | exact ⟨rfl, rfl⟩ | exact Or.inl rfl | exact ⟨Or.inl rfl, Or.inl rfl⟩ | trivial | assumption | omega | (symm; assumption) | ((repeat' apply And.intro) <;> first | rfl | omega | trivial | assumption)) ?_
    rintro x hx
    simp only [go_sem, Nat.reduceAdd, Nat.reduceLT, Nat.reduceEqDiff]
    repeat (first | (with_reducible first | refine W_seq fun K hK => ?_ | refine J_block ?_ | refine J_skip ?_ | refine J_exit ?_ | refine J_ret ?_ | refine J_region ?_ | refine J_orders (id := 1) [2, 5] (.one 0 (.one 1 (.one 3 (.one 4 (.br (.alt 2 (.one 6 (.one 5 (.one 7 .leaf))) (.alt 5 (.one 2 (.one 6 (.one 7 .leaf))) .fin))))))) mixed (by kernel_rfl) ?_ | refine J_orders (id := 12) [8] (.one 0 (.one 1 (.one 2 (.one 3 (.one 4 (.one 5 (.one 6 (.one 7 (.one 8 (.one 9 (.one 10 .leaf))))))))))) mixed (by kernel_rfl) ?_  | refine J_drawn mixed (by kernel_rfl) ?_ | refine aApp_sl ?_ | refine aApp_old ?_ | refine J_c ?_ | refine Jc_true ?_ | refine Jc_false ?_ | exact Frz.f _ | (refine Kont.go (by assumption) ?_) | (simp (config := { maxSteps := 3000000 }) (disch := omega) only [go_sem, Nat.reduceEqDiff, ↓reduceIte, Nat.reduceAdd, Nat.reduceLT, Nat.reduceLeDiff, Int.reduceLT, Int.reduceLE, Int.reduceEq, Int.reduceNe, Int.reduceAdd, Int.reduceSub, Int.reduceMul, Int.reduceNeg, Int.reduceToNat])) | refine call_f (of_good (by omega) (by omega)) rfl ?_ | refine callQ_f (of_good (by omega) (by omega)) rfl ?_ | refine call_f (sub_w (by assumption) (by assumption) (by omega) (by omega)) rfl ?_ | refine callQ_f (sub_w (by assumption) (by assumption) (by omega) (by omega)) rfl ?_ | refine And.intro (by omega) ?_ | refine And.intro (And.intro (by omega) (by omega)) ?_)
    refine Jc_if (fun hxl => ?_) (fun hxl => ?_) <;> try simp only [decide_eq_true_eq, decide_eq_false_iff_not, Bool.not_eq_true', Bool.not_eq_false', Bool.not_true, Bool.not_false, Int.ofNat_lt, Int.ofNat_le, Int.natCast_inj, Classical.not_not] at hxl
    · have g2 := hNg x hxl
      have hfl : (fillL n i (fun i => frs (wR m l i)) nilV).length = n := fill_len
      have hgt : ∀ y, (((fillL n i (fun i => frs (wR m l i)) nilV).map AV.f).set i y)[i]? = some y := fun y => List.getElem?_set_self (by rw [List.length_map, hfl]; exact hil)
      have hnx := wTo_next (m := m) (l := l) (i := i) (x := x)
      have hbl := wTo_len (m := m) (l := l) (i := i) (x := x)
      have hne1 : wTo m l i (x + 1) ≠ [] := fun e => by have := congrArg List.length e; rw [wTo_len] at this; simp at this
      have hsl1 : sl 5 3 (wTo m l i (x + 1)) = .own 5 3 0 (x + 1) := by rw [sl_pos hne1, wTo_len]
      have hob1 : ob 55 3 (wTo m l i (x + 1)) = some ⟨55, 3, (wTo m l i (x + 1)).map .f⟩ := ob_pos hne1
      have htk : ((wTo m l i x).map AV.f).take x ++ [AV.f (fr (wM m l i x))] = (wTo m l i (x + 1)).map AV.f := by rw [List.take_of_length_le (by rw [List.length_map, hbl]; omega), ← hnx, List.map_append]; rfl
      have hq1 : (wTo m l i (0 + 1)).map AV.f = [AV.f (fr (wM m l i 0))] := rfl
      by_cases hi0 : i = 0
      · have hpos : ¬ (0 : Int) < (i : Int) := by omega
        have hv1 : fr ((1 : Int) : Rat) = fr (wM m l i x) := by unfold wM; rw [if_pos hi0]; rfl
        by_cases hx0 : x = 0
        · subst hx0
          repeat (first | (with_reducible first | refine W_seq fun K hK => ?_ | refine J_block ?_ | refine J_skip ?_ | refine J_exit ?_ | refine J_ret ?_ | refine J_region ?_ | refine J_orders (id := 1) [2, 5] (.one 0 (.one 1 (.one 3 (.one 4 (.br (.alt 2 (.one 6 (.one 5 (.one 7 .leaf))) (.alt 5 (.one 2 (.one 6 (.one 7 .leaf))) .fin))))))) mixed (by kernel_rfl) ?_ | refine J_orders (id := 12) [8] (.one 0 (.one 1 (.one 2 (.one 3 (.one 4 (.one 5 (.one 6 (.one 7 (.one 8 (.one 9 (.one 10 .leaf))))))))))) mixed (by kernel_rfl) ?_  | refine J_drawn mixed (by kernel_rfl) ?_ | refine aApp_sl ?_ | refine aApp_old ?_ | refine J_c ?_ | refine Jc_true ?_ | refine Jc_false ?_ | exact Frz.f _ | (refine Kont.go (by assumption) ?_) | (simp (config := { maxSteps := 3000000 }) (disch := omega) only [go_sem, Nat.reduceEqDiff, ↓reduceIte, Nat.reduceAdd, Nat.reduceLT, Nat.reduceLeDiff, Int.reduceLT, Int.reduceLE, Int.reduceEq, Int.reduceNe, Int.reduceAdd, Int.reduceSub, Int.reduceMul, Int.reduceNeg, Int.reduceToNat, hNl, g2, hpos, hgt, wTo_zero, sl_nil, ob_nil, List.set_set, hv1, Nat.reduceMul, Nat.le_refl, true_and, and_true, and_self])) | refine call_f (of_good (by omega) (by omega)) rfl ?_ | refine callQ_f (of_good (by omega) (by omega)) rfl ?_ | refine call_f (sub_w (by assumption) (by assumption) (by omega) (by omega)) rfl ?_ | refine callQ_f (sub_w (by assumption) (by assumption) (by omega) (by omega)) rfl ?_ | refine And.intro (by omega) ?_ | refine And.intro (And.intro (by omega) (by omega)) ?_)
          refine ⟨0 + 1, by omega, by omega, weak_ren [0, 1, 5] ⟨by decide, by first | decide | (simp; done)⟩ ?_ ?_⟩ <;> (try simp (disch := omega) only [go_sem, Nat.reduceAdd, Nat.reduceLT, Nat.reduceEqDiff, hsl1, hob1, hq1]) <;> (try first | done | omega | rfl | exact ⟨rfl, rfl⟩ | trivial)
        · have hne : wTo m l i x ≠ [] := fun e => by rw [e] at hbl; simp at hbl; omega
          have hsl : sl 2 3 (wTo m l i x) = .own 2 3 0 x := by rw [sl_pos hne, hbl]
          have hob : ob 55 3 (wTo m l i x) = some ⟨55, 3, (wTo m l i x).map .f⟩ := ob_pos hne
          repeat (first | (with_reducible first | refine W_seq fun K hK => ?_ | refine J_block ?_ | refine J_skip ?_ | refine J_exit ?_ | refine J_ret ?_ | refine J_region ?_ | refine J_orders (id := 1) [2, 5] (.one 0 (.one 1 (.one 3 (.one 4 (.br (.alt 2 (.one 6 (.one 5 (.one 7 .leaf))) (.alt 5 (.one 2 (.one 6 (.one 7 .leaf))) .fin))))))) mixed (by kernel_rfl) ?_ | refine J_orders (id := 12) [8] (.one 0 (.one 1 (.one 2 (.one 3 (.one 4 (.one 5 (.one 6 (.one 7 (.one 8 (.one 9 (.one 10 .leaf))))))))))) mixed (by kernel_rfl) ?_  | refine J_drawn mixed (by kernel_rfl) ?_ | refine aApp_sl ?_ | refine aApp_old ?_ | refine J_c ?_ | refine Jc_true ?_ | refine Jc_false ?_ | exact Frz.f _ | (refine Kont.go (by assumption) ?_) | (simp (config := { maxSteps := 3000000 }) (disch := omega) only [go_sem, Nat.reduceEqDiff, ↓reduceIte, Nat.reduceAdd, Nat.reduceLT, Nat.reduceLeDiff, Int.reduceLT, Int.reduceLE, Int.reduceEq, Int.reduceNe, Int.reduceAdd, Int.reduceSub, Int.reduceMul, Int.reduceNeg, Int.reduceToNat, hNl, g2, hpos, hgt, hsl, hob, hbl, List.set_set, htk, hv1, Nat.reduceMul, Nat.le_refl, true_and, and_true, and_self])) | refine call_f (of_good (by omega) (by omega)) rfl ?_ | refine callQ_f (of_good (by omega) (by omega)) rfl ?_ | refine call_f (sub_w (by assumption) (by assumption) (by omega) (by omega)) rfl ?_ | refine callQ_f (sub_w (by assumption) (by assumption) (by omega) (by omega)) rfl ?_ | refine And.intro (by omega) ?_ | refine And.intro (And.intro (by omega) (by omega)) ?_)
          refine ⟨x + 1, by omega, by omega, weak_ren [0, 1, 5] ⟨by decide, by first | decide | (simp; done)⟩ ?_ ?_⟩ <;> (try simp (disch := omega) only [go_sem, Nat.reduceAdd, Nat.reduceLT, Nat.reduceEqDiff, hsl1, hob1]) <;> (try first | done | omega | rfl | exact ⟨rfl, rfl⟩ | trivial)
      · have hpos : (0 : Int) < (i : Int) := by omega
        obtain ⟨xs, gg, nn, dd, z1, z2, z3⟩ := hm.at2 (hgl x hxl) (hgl i hil)
        have hone2 := chone_w (decide (l.getD x 0 = l.getD i 0))
        obtain ⟨c2, hc2⟩ : ∃ c : Int, c = if decide (l.getD x 0 = l.getD i 0) = true then 1 else 0 := ⟨_, rfl⟩
        have hc21 : 0 ≤ c2 ∧ c2 ≤ 1 := by rw [hc2]; split <;> omega
        rw [← hc2] at hone2
        have r2 : IsFr (fr ((c2 : Int) : Rat)) ((c2 : Int) : Rat) 8 := IsFr.int (by omega) (by omega)
        have ec2 : fr (at2 m (l.getD x 0) (l.getD i 0) - ((c2 : Int) : Rat)) = fr (wM m l i x) := by
          unfold wM
          rw [if_neg hi0, hc2]
          congr 2
          by_cases e : l.getD x 0 = l.getD i 0
          · rw [if_pos e, if_pos (by simpa using e)]; rfl
          · rw [if_neg e, if_neg (by simpa using e)]; rfl
        by_cases hx0 : x = 0
        · subst hx0
          repeat (first | (with_reducible first | refine W_seq fun K hK => ?_ | refine J_block ?_ | refine J_skip ?_ | refine J_exit ?_ | refine J_ret ?_ | refine J_region ?_ | refine J_orders (id := 1) [2, 5] (.one 0 (.one 1 (.one 3 (.one 4 (.br (.alt 2 (.one 6 (.one 5 (.one 7 .leaf))) (.alt 5 (.one 2 (.one 6 (.one 7 .leaf))) .fin))))))) mixed (by kernel_rfl) ?_ | refine J_orders (id := 12) [8] (.one 0 (.one 1 (.one 2 (.one 3 (.one 4 (.one 5 (.one 6 (.one 7 (.one 8 (.one 9 (.one 10 .leaf))))))))))) mixed (by kernel_rfl) ?_  | refine J_drawn mixed (by kernel_rfl) ?_ | refine aApp_sl ?_ | refine aApp_old ?_ | refine J_c ?_ | refine Jc_true ?_ | refine Jc_false ?_ | exact Frz.f _ | (refine Kont.go (by assumption) ?_) | (simp (config := { maxSteps := 3000000 }) (disch := omega) only [go_sem, Nat.reduceEqDiff, ↓reduceIte, Nat.reduceAdd, Nat.reduceLT, Nat.reduceLeDiff, Int.reduceLT, Int.reduceLE, Int.reduceEq, Int.reduceNe, Int.reduceAdd, Int.reduceSub, Int.reduceMul, Int.reduceNeg, Int.reduceToNat, hNl, g2, hpos, hgt, z1, z2, wTo_zero, sl_nil, ob_nil, List.set_set, Int.natCast_inj, Nat.reduceMul, Nat.le_refl, true_and, and_true, and_self])) | refine call_f (of_good (by omega) (by omega)) rfl ?_ | refine callQ_f (of_good (by omega) (by omega)) rfl ?_ | refine call_f (sub_w (by assumption) (by assumption) (by omega) (by omega)) rfl ?_ | refine callQ_f (sub_w (by assumption) (by assumption) (by omega) (by omega)) rfl ?_ | refine And.intro (by omega) ?_ | refine And.intro (And.intro (by omega) (by omega)) ?_)
          refine callQ_f hone2 rfl ?_
          repeat (first | (with_reducible first | refine W_seq fun K hK => ?_ | refine J_block ?_ | refine J_skip ?_ | refine J_exit ?_ | refine J_ret ?_ | refine J_region ?_ | refine J_orders (id := 1) [2, 5] (.one 0 (.one 1 (.one 3 (.one 4 (.br (.alt 2 (.one 6 (.one 5 (.one 7 .leaf))) (.alt 5 (.one 2 (.one 6 (.one 7 .leaf))) .fin))))))) mixed (by kernel_rfl) ?_ | refine J_orders (id := 12) [8] (.one 0 (.one 1 (.one 2 (.one 3 (.one 4 (.one 5 (.one 6 (.one 7 (.one 8 (.one 9 (.one 10 .leaf))))))))))) mixed (by kernel_rfl) ?_  | refine J_drawn mixed (by kernel_rfl) ?_ | refine aApp_sl ?_ | refine aApp_old ?_ | refine J_c ?_ | refine Jc_true ?_ | refine Jc_false ?_ | exact Frz.f _ | (refine Kont.go (by assumption) ?_) | (simp (config := { maxSteps := 3000000 }) (disch := omega) only [go_sem, Nat.reduceEqDiff, ↓reduceIte, Nat.reduceAdd, Nat.reduceLT, Nat.reduceLeDiff, Int.reduceLT, Int.reduceLE, Int.reduceEq, Int.reduceNe, Int.reduceAdd, Int.reduceSub, Int.reduceMul, Int.reduceNeg, Int.reduceToNat, hNl, g2, hpos, hgt, z1, z2, wTo_zero, sl_nil, ob_nil, List.set_set, ec2, Nat.reduceMul, Nat.le_refl, true_and, and_true, and_self])) | refine call_f (of_good (by omega) (by omega)) rfl ?_ | refine callQ_f (of_good (by omega) (by omega)) rfl ?_ | refine call_f (sub_w (by assumption) (by assumption) (by omega) (by omega)) rfl ?_ | refine callQ_f (sub_w (by assumption) (by assumption) (by omega) (by omega)) rfl ?_ | refine And.intro (by omega) ?_ | refine And.intro (And.intro (by omega) (by omega)) ?_)
          refine ⟨0 + 1, by omega, by omega, weak_ren [0, 1, 5] ⟨by decide, by first | decide | (simp; done)⟩ ?_ ?_⟩ <;> (try simp (disch := omega) only [go_sem, Nat.reduceAdd, Nat.reduceLT, Nat.reduceEqDiff, hsl1, hob1, hq1]) <;> (try first | done | omega | rfl | exact ⟨rfl, rfl⟩ | trivial)
        · have hne : wTo m l i x ≠ [] := fun e => by rw [e] at hbl; simp at hbl; omega
          have hsl : sl 2 3 (wTo m l i x) = .own 2 3 0 x := by rw [sl_pos hne, hbl]
          have hob : ob 55 3 (wTo m l i x) = some ⟨55, 3, (wTo m l i x).map .f⟩ := ob_pos hne
          repeat (first | (with_reducible first | refine W_seq fun K hK => ?_ | refine J_block ?_ | refine J_skip ?_ | refine J_exit ?_ | refine J_ret ?_ | refine J_region ?_ | refine J_orders (id := 1) [2, 5] (.one 0 (.one 1 (.one 3 (.one 4 (.br (.alt 2 (.one 6 (.one 5 (.one 7 .leaf))) (.alt 5 (.one 2 (.one 6 (.one 7 .leaf))) .fin))))))) mixed (by kernel_rfl) ?_ | refine J_orders (id := 12) [8] (.one 0 (.one 1 (.one 2 (.one 3 (.one 4 (.one 5 (.one 6 (.one 7 (.one 8 (.one 9 (.one 10 .leaf))))))))))) mixed (by kernel_rfl) ?_  | refine J_drawn mixed (by kernel_rfl) ?_ | refine aApp_sl ?_ | refine aApp_old ?_ | refine J_c ?_ | refine Jc_true ?_ | refine Jc_false ?_ | exact Frz.f _ | (refine Kont.go (by assumption) ?_) | (simp (config := { maxSteps := 3000000 }) (disch := omega) only [go_sem, Nat.reduceEqDiff, ↓reduceIte, Nat.reduceAdd, Nat.reduceLT, Nat.reduceLeDiff, Int.reduceLT, Int.reduceLE, Int.reduceEq, Int.reduceNe, Int.reduceAdd, Int.reduceSub, Int.reduceMul, Int.reduceNeg, Int.reduceToNat, hNl, g2, hpos, hgt, z1, z2, hsl, hob, hbl, List.set_set, htk, Int.natCast_inj, Nat.reduceMul, Nat.le_refl, true_and, and_true, and_self])) | refine call_f (of_good (by omega) (by omega)) rfl ?_ | refine callQ_f (of_good (by omega) (by omega)) rfl ?_ | refine call_f (sub_w (by assumption) (by assumption) (by omega) (by omega)) rfl ?_ | refine callQ_f (sub_w (by assumption) (by assumption) (by omega) (by omega)) rfl ?_ | refine And.intro (by omega) ?_ | refine And.intro (And.intro (by omega) (by omega)) ?_)
          refine callQ_f hone2 rfl ?_
          repeat (first | (with_reducible first | refine W_seq fun K hK => ?_ | refine J_block ?_ | refine J_skip ?_ | refine J_exit ?_ | refine J_ret ?_ | refine J_region ?_ | refine J_orders (id := 1) [2, 5] (.one 0 (.one 1 (.one 3 (.one 4 (.br (.alt 2 (.one 6 (.one 5 (.one 7 .leaf))) (.alt 5 (.one 2 (.one 6 (.one 7 .leaf))) .fin))))))) mixed (by kernel_rfl) ?_ | refine J_orders (id := 12) [8] (.one 0 (.one 1 (.one 2 (.one 3 (.one 4 (.one 5 (.one 6 (.one 7 (.one 8 (.one 9 (.one 10 .leaf))))))))))) mixed (by kernel_rfl) ?_  | refine J_drawn mixed (by kernel_rfl) ?_ | refine aApp_sl ?_ | refine aApp_old ?_ | refine J_c ?_ | refine Jc_true ?_ | refine Jc_false ?_ | exact Frz.f _ | (refine Kont.go (by assumption) ?_) | (simp (config := { maxSteps := 3000000 }) (disch := omega) only [go_sem, Nat.reduceEqDiff, ↓reduceIte, Nat.reduceAdd, Nat.reduceLT, Nat.reduceLeDiff, Int.reduceLT, Int.reduceLE, Int.reduceEq, Int.reduceNe, Int.reduceAdd, Int.reduceSub, Int.reduceMul, Int.reduceNeg, Int.reduceToNat, hNl, g2, hpos, hgt, z1, z2, hsl, hob, hbl, List.set_set, htk, ec2, Nat.reduceMul, Nat.le_refl, true_and, and_true, and_self])) | refine call_f (of_good (by omega) (by omega)) rfl ?_ | refine callQ_f (of_good (by omega) (by omega)) rfl ?_ | refine call_f (sub_w (by assumption) (by assumption) (by omega) (by omega)) rfl ?_ | refine callQ_f (sub_w (by assumption) (by assumption) (by omega) (by omega)) rfl ?_ | refine And.intro (by omega) ?_ | refine And.intro (And.intro (by omega) (by omega)) ?_)
          refine ⟨x + 1, by omega, by omega, weak_ren [0, 1, 5] ⟨by decide, by first | decide | (simp; done)⟩ ?_ ?_⟩ <;> (try simp (disch := omega) only [go_sem, Nat.reduceAdd, Nat.reduceLT, Nat.reduceEqDiff, hsl1, hob1]) <;> (try first | done | omega | rfl | exact ⟨rfl, rfl⟩ | trivial)
    · have he : x = n := by omega
      subst he
      have hbl := wTo_len (m := m) (l := l) (i := i) (x := x)
      have hne : wTo m l i x ≠ [] := fun e => by rw [e] at hbl; simp at hbl; omega
      have hsl : sl 2 3 (wTo m l i x) = .own 2 3 0 x := by rw [sl_pos hne, hbl]
      have hob : ob 55 3 (wTo m l i x) = some ⟨55, 3, (wTo m l i x).map .f⟩ := ob_pos hne
      have hset := fillA_set (n := x) (f := fun i => frs (wR m l i)) (z := nilV) hil rfl
      have hrw : FV.fz 3 (wTo m l i x) = frs (wR m l i) := by unfold wTo wR; show FV.fz 3 _ = FV.fz 3 (((List.range l.length).map (wM m l i)).map fr); rw [List.map_map, ← hn]; rfl
      rw [hsl, hob]
      refine J_freezeA (r := 2) (sz := 3) (l := wTo m l i x) rfl ?_
      repeat (first | (with_reducible first | refine W_seq fun K hK => ?_ | refine J_block ?_ | refine J_skip ?_ | refine J_exit ?_ | refine J_ret ?_ | refine J_region ?_ | refine J_orders (id := 1) [2, 5] (.one 0 (.one 1 (.one 3 (.one 4 (.br (.alt 2 (.one 6 (.one 5 (.one 7 .leaf))) (.alt 5 (.one 2 (.one 6 (.one 7 .leaf))) .fin))))))) mixed (by kernel_rfl) ?_ | refine J_orders (id := 12) [8] (.one 0 (.one 1 (.one 2 (.one 3 (.one 4 (.one 5 (.one 6 (.one 7 (.one 8 (.one 9 (.one 10 .leaf))))))))))) mixed (by kernel_rfl) ?_  | refine J_drawn mixed (by kernel_rfl) ?_ | refine aApp_sl ?_ | refine aApp_old ?_ | refine J_c ?_ | refine Jc_true ?_ | refine Jc_false ?_ | exact Frz.f _ | (refine Kont.go (by assumption) ?_) | (simp (config := { maxSteps := 3000000 }) (disch := omega) only [go_sem, Nat.reduceEqDiff, ↓reduceIte, Nat.reduceAdd, Nat.reduceLT, Nat.reduceLeDiff, Int.reduceLT, Int.reduceLE, Int.reduceEq, Int.reduceNe, Int.reduceAdd, Int.reduceSub, Int.reduceMul, Int.reduceNeg, Int.reduceToNat, hbl, and_self, hrw, hset])) | refine call_f (of_good (by omega) (by omega)) rfl ?_ | refine callQ_f (of_good (by omega) (by omega)) rfl ?_ | refine call_f (sub_w (by assumption) (by assumption) (by omega) (by omega)) rfl ?_ | refine callQ_f (sub_w (by assumption) (by assumption) (by omega) (by omega)) rfl ?_ | refine And.intro (by omega) ?_ | refine And.intro (And.intro (by omega) (by omega)) ?_)
      refine ⟨i + 1, by omega, by omega, weak_of ?_ ?_⟩ <;> (try simp (disch := omega) only [go_sem, Nat.reduceAdd, Nat.reduceLT, Nat.reduceEqDiff]) <;> (try first | done | omega | rfl | exact ⟨rfl, rfl⟩ | trivial)
  · have he : i = n := by omega
    subst he
    have hA : fillL i i (fun i => frs (wR m l i)) nilV = ((List.range l.length).map (wR m l)).map frs := by rw [fill_all, List.map_map, hn]; rfl
    have hB : fillL i i (fun i => fr (wB i)) zf = ((List.range l.length).map wB).map fr := by rw [fill_all, List.map_map, hn]; rfl
    rw [hA, hB]
    refine J_freezeO (j := 6) rfl (by simp [hn]) rfl ?_
    repeat (first | (with_reducible first | refine W_seq fun K hK => ?_ | refine J_block ?_ | refine J_skip ?_ | refine J_exit ?_ | refine J_ret ?_ | refine J_region ?_ | refine J_orders (id := 1) [2, 5] (.one 0 (.one 1 (.one 3 (.one 4 (.br (.alt 2 (.one 6 (.one 5 (.one 7 .leaf))) (.alt 5 (.one 2 (.one 6 (.one 7 .leaf))) .fin))))))) mixed (by kernel_rfl) ?_ | refine J_orders (id := 12) [8] (.one 0 (.one 1 (.one 2 (.one 3 (.one 4 (.one 5 (.one 6 (.one 7 (.one 8 (.one 9 (.one 10 .leaf))))))))))) mixed (by kernel_rfl) ?_  | refine J_drawn mixed (by kernel_rfl) ?_ | refine aApp_sl ?_ | refine aApp_old ?_ | refine J_c ?_ | refine Jc_true ?_ | refine Jc_false ?_ | exact Frz.f _ | (refine Kont.go (by assumption) ?_) | (simp (config := { maxSteps := 3000000 }) (disch := omega) only [go_sem, Nat.reduceEqDiff, ↓reduceIte, Nat.reduceAdd, Nat.reduceLT, Nat.reduceLeDiff, Int.reduceLT, Int.reduceLE, Int.reduceEq, Int.reduceNe, Int.reduceAdd, Int.reduceSub, Int.reduceMul, Int.reduceNeg, Int.reduceToNat])) | refine call_f (of_good (by omega) (by omega)) rfl ?_ | refine callQ_f (of_good (by omega) (by omega)) rfl ?_ | refine call_f (sub_w (by assumption) (by assumption) (by omega) (by omega)) rfl ?_ | refine callQ_f (sub_w (by assumption) (by assumption) (by omega) (by omega)) rfl ?_ | refine And.intro (by omega) ?_ | refine And.intro (And.intro (by omega) (by omega)) ?_)
    have hone : Fz (1 : Rat) (b + 9) := (Fz.int (n := 1) (by decide)).up (by omega)
    have hzero : Fz (0 : Rat) (b + 9) := (Fz.int (n := 0) (by decide)).up (by omega)
    have hW : ∀ a k, a < l.length → k < l.length → Fz (wM m l a k) (b + 9) := fun a k ha hk => by
      unfold wM
      split
      · exact hone
      · refine ((hm.f2 h1 (hgl k (by omega)) (hgl a (by omega))).sub (k := 8) ?_)
        split
        · exact Fz.int (n := 1) (by decide)
        · exact Fz.int (n := 0) (by decide)
    have hAl : ((List.range l.length).map (wR m l)).length = i := by simp [hn]
    have hs := solve_w (A := (List.range l.length).map (wR m l)) (b := (List.range l.length).map wB) (s := b + 9) (by omega) (by omega) (fun r hr => by
        obtain ⟨a, _, rfl⟩ := List.mem_map.1 hr
        simp [wR]) (by simp) (fun r hr => by
        obtain ⟨a, ha, rfl⟩ := List.mem_map.1 hr
        intro z hz
        obtain ⟨k, hk, rfl⟩ := List.mem_map.1 hz
        exact hW a k (List.mem_range.1 ha) (List.mem_range.1 hk)) (fun z hz => by
        obtain ⟨a, _, rfl⟩ := List.mem_map.1 hz
        unfold wB
        split
        · exact hone
        · exact hzero) (by omega) (by omega)
    rw [hAl] at hs
    refine call_m (q := 0) hs rfl rfl (fun z hz => ?_) ?_
    · rcases List.mem_cons.1 hz with rfl | hz
      · rfl
      · cases List.mem_singleton.1 hz; rfl
    repeat (first | (with_reducible first | refine W_seq fun K hK => ?_ | refine J_block ?_ | refine J_skip ?_ | refine J_exit ?_ | refine J_ret ?_ | refine J_region ?_ | refine J_orders (id := 1) [2, 5] (.one 0 (.one 1 (.one 3 (.one 4 (.br (.alt 2 (.one 6 (.one 5 (.one 7 .leaf))) (.alt 5 (.one 2 (.one 6 (.one 7 .leaf))) .fin))))))) mixed (by kernel_rfl) ?_ | refine J_orders (id := 12) [8] (.one 0 (.one 1 (.one 2 (.one 3 (.one 4 (.one 5 (.one 6 (.one 7 (.one 8 (.one 9 (.one 10 .leaf))))))))))) mixed (by kernel_rfl) ?_  | refine J_drawn mixed (by kernel_rfl) ?_ | refine aApp_sl ?_ | refine aApp_old ?_ | refine J_c ?_ | refine Jc_true ?_ | refine Jc_false ?_ | exact Frz.f _ | (refine Kont.go (by assumption) ?_) | (simp (config := { maxSteps := 3000000 }) (disch := omega) only [go_sem, Nat.reduceEqDiff, ↓reduceIte, Nat.reduceAdd, Nat.reduceLT, Nat.reduceLeDiff, Int.reduceLT, Int.reduceLE, Int.reduceEq, Int.reduceNe, Int.reduceAdd, Int.reduceSub, Int.reduceMul, Int.reduceNeg, Int.reduceToNat])) | refine call_f (of_good (by omega) (by omega)) rfl ?_ | refine callQ_f (of_good (by omega) (by omega)) rfl ?_ | refine call_f (sub_w (by assumption) (by assumption) (by omega) (by omega)) rfl ?_ | refine callQ_f (sub_w (by assumption) (by assumption) (by omega) (by omega)) rfl ?_ | refine And.intro (by omega) ?_ | refine And.intro (And.intro (by omega) (by omega)) ?_)
    exact Frz.f _
end Go.Proofs.YtabmgfchkcmcmaaDoor
