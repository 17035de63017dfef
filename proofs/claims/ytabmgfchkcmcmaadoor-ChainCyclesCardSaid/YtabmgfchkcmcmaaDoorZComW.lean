/- All that one comes to: walked, the law's way and the document's. Conditions: numbers of 10^6 bytes each. -/
import Derived.Test.YtabmgfchkcmcmaaDoorZSomW
import Derived.Test.YtabmgfchkcmcmaaDoorZRoA
set_option linter.unusedVariables false
set_option linter.unusedSimpArgs false
namespace Go.Proofs.YtabmgfchkcmcmaaDoor
open Go Go.RowKit
theorem cmp_edg {m : List (List Rat)} {i k : Nat} : decide (0 < cmpR (at2 m i k) ((0 : Int) : Rat)) = edg m i k := by
  unfold edg
  congr 1
  exact propext (cmpR_gt.trans (by rw [show ((0 : Int) : Rat) = 0 from rfl]))
set_option maxRecDepth 100000 in
set_option maxHeartbeats 8000000 in
theorem rcomes_w {b : Nat} {ys : List FV} {m : List (List Rat)} {i : Nat} (hm : SqM b ys m) (h1 : 1 ≤ b) (hb : b ≤ 1000000) (hi : i < m.length) :
    Good Tryd.prog 181 [.fz 1 ys, I (i : Int)] (.fz 1 (Ns (comL m.length (edg m) i))) := by
  have hn6 := hm.le
  obtain ⟨n, hn⟩ : ∃ n, n = m.length := ⟨_, rfl⟩
  have hyl : ys.length = n := hm.fr.len.trans hn.symm
  rw [← hn] at hi hn6 ⊢
  obtain ⟨E, hE⟩ : ∃ E, E = edg m := ⟨_, rfl⟩
  rw [← hE]
  have hI : [I (i : Int)] = Ns [i] := rfl
  have stop : ∀ f l k, ¬ k < l.length → bfsN n E f l k = l := fun f l k h => by
    cases f with
    | zero => rfl
    | succ f => exact if_neg h
  have hS : sl 0 1 (Ns [i]) = .own 0 1 0 1 := rfl
  have hOb : ob 3 1 (Ns [i]) = some ⟨3, 1, [.f (I i)]⟩ := rfl
  have h0f : IsFr (fr ((0 : Int) : Rat)) ((0 : Int) : Rat) 8 := IsFr.int (by omega) (by omega)
  refine good_of Tryd.func181 rfl (by kernel_rfl) fun X hO => ?_; rw [Tryd.ntmps181, Tryd.results181]; simp only [ast0, List.map_cons, List.map_nil, List.length_cons, List.length_nil, Nat.reduceAdd, Nat.reduceSub, List.replicate_succ, List.replicate_zero, List.cons_append, List.nil_append]
  repeat (first | (with_reducible first | refine W_seq fun K hK => ?_ | refine J_block ?_ | refine J_skip ?_ | refine J_exit ?_ | refine J_ret ?_ | refine J_region ?_  | refine J_drawn mixed (by kernel_rfl) ?_ | refine aApp_sl ?_ | refine aApp_old ?_ | refine J_c ?_ | refine Jc_true ?_ | refine Jc_false ?_ | exact Frz.f _ | (refine Kont.go (by assumption) ?_) | (simp (config := { maxSteps := 3000000 }) (disch := omega) only [go_sem, Nat.reduceEqDiff, ↓reduceIte, Nat.reduceAdd, Nat.reduceLT, Nat.reduceLeDiff, Int.reduceLT, Int.reduceLE, Int.reduceEq, Int.reduceNe, Int.reduceAdd, Int.reduceSub, Int.reduceMul, Int.reduceNeg, Int.reduceToNat])) | refine call_f (rof_frac (by omega) (by omega)) rfl ?_ | refine callQ_f (rof_frac (by omega) (by omega)) rfl ?_ | refine call_f (rcmp_w (by assumption) (by assumption) (by omega) (by omega)) rfl ?_ | refine callQ_f (rcmp_w (by assumption) (by assumption) (by omega) (by omega)) rfl ?_ | refine And.intro (by omega) ?_ | refine And.intro (And.intro (by omega) (by omega)) ?_)
  refine W_loop [5, 6, 7, 8, 9, 12, 13, 14, 15, 16, 17, 18, 19, 20, 21, 22, 23, 24, 25, 26, 27, 28, 29, 30, 31, 32, 33, 34, 35, 36, 37, 38, 39, 40, 41, 42, 43, 44, 45, 46, 47, 48] (fun x : List Nat × Nat => [(5, sl 0 1 (Ns x.1)), (6, .f (I x.2)), (11, .any), (13, .any)]) (fun x : List Nat × Nat => [ob 3 1 (Ns x.1)]) (fun x : List Nat × Nat => Bfs n E i x.1 x.2 ∧ bfsN n E (n + 1 - x.2) x.1 x.2 = comL n E i ∧ x.2 ≤ x.1.length) (fun x : List Nat × Nat => n - x.2) (([i], 0)) (⟨Bfs.first hi, rfl, Nat.zero_le _⟩) (by refine weak_of ?_ ?_ <;> simp (disch := omega) only [go_sem, Nat.reduceAdd, Nat.reduceLT, Nat.reduceEqDiff] <;> first | rfl | exact ⟨rfl, rfl⟩ | exact Or.inl rfl | exact ⟨Or.inl rfl, Or.inl rfl⟩ | trivial | assumption | omega | (symm; assumption) | ((repeat' apply And.intro) <;> first | rfl | omega | trivial | exact .inr ⟨rfl, rfl⟩ | exact .inr rfl | (right; symm; assumption) | (symm; assumption) | assumption)) ?_
  rintro ⟨l, k⟩ ⟨hB, hC, hk⟩
  replace hB : Bfs n E i l k := hB
  replace hC : bfsN n E (n + 1 - k) l k = comL n E i := hC
  replace hk : k ≤ l.length := hk
  have hll := hB.len
  simp only [go_sem, Nat.reduceAdd, Nat.reduceLT, Nat.reduceEqDiff]
  have hkn6 : k ≤ 6 := by omega
  have hne : Ns l ≠ [] := fun e => by
    have := List.length_pos_of_mem hB.at0
    have e2 := congrArg List.length e
    rw [Ns_len] at e2
    simp at e2
    rw [e2] at this
    simp at this
  repeat (first | (with_reducible first | refine W_seq fun K hK => ?_ | refine J_block ?_ | refine J_skip ?_ | refine J_exit ?_ | refine J_ret ?_ | refine J_region ?_  | refine J_drawn mixed (by kernel_rfl) ?_ | refine aApp_sl ?_ | refine aApp_old ?_ | refine J_c ?_ | refine Jc_true ?_ | refine Jc_false ?_ | exact Frz.f _ | (refine Kont.go (by assumption) ?_) | (simp (config := { maxSteps := 3000000 }) (disch := omega) only [go_sem, Nat.reduceEqDiff, ↓reduceIte, Nat.reduceAdd, Nat.reduceLT, Nat.reduceLeDiff, Int.reduceLT, Int.reduceLE, Int.reduceEq, Int.reduceNe, Int.reduceAdd, Int.reduceSub, Int.reduceMul, Int.reduceNeg, Int.reduceToNat, sl_pos hne, ob_pos hne, Ns_len])) | refine call_f (rof_frac (by omega) (by omega)) rfl ?_ | refine callQ_f (rof_frac (by omega) (by omega)) rfl ?_ | refine call_f (rcmp_w (by assumption) (by assumption) (by omega) (by omega)) rfl ?_ | refine callQ_f (rcmp_w (by assumption) (by assumption) (by omega) (by omega)) rfl ?_ | refine And.intro (by omega) ?_ | refine And.intro (And.intro (by omega) (by omega)) ?_)
  refine Jc_if (fun hkl => ?_) (fun hkl => ?_) <;> try simp only [decide_eq_true_eq, decide_eq_false_iff_not, Bool.not_eq_true', Bool.not_eq_false', Bool.not_true, Bool.not_false, Int.ofNat_lt, Int.ofNat_le, Int.natCast_inj, Classical.not_not] at hkl
  · have hkn : l.getD k 0 < n := by rw [lget_lt l 0 hkl]; exact hB.lt _ (List.getElem_mem _)
    have hS2 : sl 0 1 (Ns (bPart E l k 0)) = .own 0 1 0 l.length := by show sl 0 1 (Ns l) = _; rw [sl_pos hne, Ns_len]
    have hO2 : ob 3 1 (Ns (bPart E l k 0)) = some ⟨3, 1, (Ns l).map .f⟩ := ob_pos hne
    repeat (first | (with_reducible first | refine W_seq fun K hK => ?_ | refine J_block ?_ | refine J_skip ?_ | refine J_exit ?_ | refine J_ret ?_ | refine J_region ?_  | refine J_drawn mixed (by kernel_rfl) ?_ | refine aApp_sl ?_ | refine aApp_old ?_ | refine J_c ?_ | refine Jc_true ?_ | refine Jc_false ?_ | exact Frz.f _ | (refine Kont.go (by assumption) ?_) | (simp (config := { maxSteps := 3000000 }) (disch := omega) only [go_sem, Nat.reduceEqDiff, ↓reduceIte, Nat.reduceAdd, Nat.reduceLT, Nat.reduceLeDiff, Int.reduceLT, Int.reduceLE, Int.reduceEq, Int.reduceNe, Int.reduceAdd, Int.reduceSub, Int.reduceMul, Int.reduceNeg, Int.reduceToNat])) | refine call_f (rof_frac (by omega) (by omega)) rfl ?_ | refine callQ_f (rof_frac (by omega) (by omega)) rfl ?_ | refine call_f (rcmp_w (by assumption) (by assumption) (by omega) (by omega)) rfl ?_ | refine callQ_f (rcmp_w (by assumption) (by assumption) (by omega) (by omega)) rfl ?_ | refine And.intro (by omega) ?_ | refine And.intro (And.intro (by omega) (by omega)) ?_)
    refine W_loop [5, 7, 8, 9, 18, 19, 20, 21, 22, 23, 24, 25, 26, 27, 28, 29, 30, 31, 32, 33, 34, 35, 36, 37, 38, 39, 40, 41, 42, 43, 44, 45, 46, 47, 48] (fun x : Nat => [(5, sl 0 1 (Ns (bPart E l k x))), (7, .f (I x)), (13, .any)]) (fun x : Nat => [ob 3 1 (Ns (bPart E l k x))]) (fun x : Nat => x ≤ n) (fun x : Nat => n - x) (0) (Nat.zero_le _) (by refine weak_of ?_ ?_ <;> simp (disch := omega) only [go_sem, Nat.reduceAdd, Nat.reduceLT, Nat.reduceEqDiff] <;> first | rfl | exact ⟨rfl, rfl⟩ | exact Or.inl rfl | exact ⟨Or.inl rfl, Or.inl rfl⟩ | trivial | assumption | omega | (symm; assumption) | ((repeat' apply And.intro) <;> first | rfl | omega | trivial | exact .inr ⟨rfl, rfl⟩ | exact .inr rfl | (right; symm; assumption) | (symm; assumption) | assumption)) ?_
    rintro j hj
    simp only [go_sem, Nat.reduceAdd, Nat.reduceLT, Nat.reduceEqDiff]
    obtain ⟨hP, _, hPg, hPl⟩ := bPart_spec hB hkl hj
    have hPk : (bPart E l k j).getD k 0 = l.getD k 0 := hPg k hkl
    have hPn := hP.len
    have hne2 : Ns (bPart E l k j) ≠ [] := fun e => by
      have e2 := congrArg List.length e
      rw [Ns_len] at e2
      simp at e2
      rw [e2] at hPl
      simp at hPl
      rw [hPl] at hkl
      simp at hkl
    have hg1 : ((Ns (bPart E l k j)).map AV.f)[k]? = some (.f (I (l.getD k 0 : Nat))) := by rw [List.getElem?_map, Ns_get (by omega), hPk]; rfl
    repeat (first | (with_reducible first | refine W_seq fun K hK => ?_ | refine J_block ?_ | refine J_skip ?_ | refine J_exit ?_ | refine J_ret ?_ | refine J_region ?_  | refine J_drawn mixed (by kernel_rfl) ?_ | refine aApp_sl ?_ | refine aApp_old ?_ | refine J_c ?_ | refine Jc_true ?_ | refine Jc_false ?_ | exact Frz.f _ | (refine Kont.go (by assumption) ?_) | (simp (config := { maxSteps := 3000000 }) (disch := omega) only [go_sem, Nat.reduceEqDiff, ↓reduceIte, Nat.reduceAdd, Nat.reduceLT, Nat.reduceLeDiff, Int.reduceLT, Int.reduceLE, Int.reduceEq, Int.reduceNe, Int.reduceAdd, Int.reduceSub, Int.reduceMul, Int.reduceNeg, Int.reduceToNat, hyl])) | refine call_f (rof_frac (by omega) (by omega)) rfl ?_ | refine callQ_f (rof_frac (by omega) (by omega)) rfl ?_ | refine call_f (rcmp_w (by assumption) (by assumption) (by omega) (by omega)) rfl ?_ | refine callQ_f (rcmp_w (by assumption) (by assumption) (by omega) (by omega)) rfl ?_ | refine And.intro (by omega) ?_ | refine And.intro (And.intro (by omega) (by omega)) ?_)
    refine Jc_if (fun hjn => ?_) (fun hjn => ?_) <;> try simp only [decide_eq_true_eq, decide_eq_false_iff_not, Bool.not_eq_true', Bool.not_eq_false', Bool.not_true, Bool.not_false, Int.ofNat_lt, Int.ofNat_le, Int.natCast_inj, Classical.not_not] at hjn
    · obtain ⟨xs, gg, nn, dd, z1, z2, z3⟩ := hm.at2 (i := l.getD k 0) (j := j) (by omega) (by omega)
      have hin := rinN_w j (bPart E l k j) (by omega) (by omega)
      repeat (first | (with_reducible first | refine W_seq fun K hK => ?_ | refine J_block ?_ | refine J_skip ?_ | refine J_exit ?_ | refine J_ret ?_ | refine J_region ?_  | refine J_drawn mixed (by kernel_rfl) ?_ | refine aApp_sl ?_ | refine aApp_old ?_ | refine J_c ?_ | refine Jc_true ?_ | refine Jc_false ?_ | exact Frz.f _ | (refine Kont.go (by assumption) ?_) | (simp (config := { maxSteps := 3000000 }) (disch := omega) only [go_sem, Nat.reduceEqDiff, ↓reduceIte, Nat.reduceAdd, Nat.reduceLT, Nat.reduceLeDiff, Int.reduceLT, Int.reduceLE, Int.reduceEq, Int.reduceNe, Int.reduceAdd, Int.reduceSub, Int.reduceMul, Int.reduceNeg, Int.reduceToNat, sl_pos hne2, ob_pos hne2, Ns_len, hg1, z1, z2, Nat.reduceMul, Nat.le_refl, true_and, and_true, and_self])) | refine call_f (rof_frac (by omega) (by omega)) rfl ?_ | refine callQ_f (rof_frac (by omega) (by omega)) rfl ?_ | refine call_f (rcmp_w (by assumption) (by assumption) (by omega) (by omega)) rfl ?_ | refine callQ_f (rcmp_w (by assumption) (by assumption) (by omega) (by omega)) rfl ?_ | refine And.intro (by omega) ?_ | refine And.intro (And.intro (by omega) (by omega)) ?_)
      refine call_fl hin (.v _) (FrzL.cons (.f _) (FrzL.cons (Frz.own0 rfl (by rw [Ns_len])) (FrzL.nil _))) ?_
      have hcm : decide (0 < cmpR (at2 m (l.getD k 0) j) ((0 : Int) : Rat)) = E (l.getD k 0) j := by rw [hE]; exact cmp_edg
      have hcm' : (0 < cmpR (at2 m (l.getD k 0) j) ((0 : Int) : Rat)) = (E (l.getD k 0) j = true) := by rw [← hcm]; simp
      by_cases hc : E (l.getD k 0) j = true ∧ j ∉ bPart E l k j
      · have e : bPart E l k (j + 1) = bPart E l k j ++ [j] := if_pos hc
        have hcT : (E (l.getD k 0) j = true) = True := eq_true hc.1
        have hcF : decide (j ∈ bPart E l k j) = false := decide_eq_false hc.2
        have hnx : Ns (bPart E l k j) ++ [I (j : Int)] = Ns (bPart E l k (j + 1)) := by rw [e, Ns_snoc]
        have hne3 : Ns (bPart E l k (j + 1)) ≠ [] := by rw [← hnx]; simp
        have hln : (bPart E l k (j + 1)).length = (bPart E l k j).length + 1 := by rw [e]; simp
        have hsl1 : sl 2 1 (Ns (bPart E l k (j + 1))) = .own 2 1 0 ((bPart E l k j).length + 1) := by rw [sl_pos hne3, Ns_len, hln]
        have hob1 : ob 3 1 (Ns (bPart E l k (j + 1))) = some ⟨3, 1, (Ns (bPart E l k (j + 1))).map .f⟩ := ob_pos hne3
        have htk : ((Ns (bPart E l k j)).map AV.f).take (bPart E l k j).length ++ [AV.f (I (j : Int))] = (Ns (bPart E l k (j + 1))).map AV.f := by rw [List.take_of_length_le (by rw [List.length_map, Ns_len]; omega), ← hnx, List.map_append]; rfl
        repeat (first | (with_reducible first | refine W_seq fun K hK => ?_ | refine J_block ?_ | refine J_skip ?_ | refine J_exit ?_ | refine J_ret ?_ | refine J_region ?_  | refine J_drawn mixed (by kernel_rfl) ?_ | refine aApp_sl ?_ | refine aApp_old ?_ | refine J_c ?_ | refine Jc_true ?_ | refine Jc_false ?_ | exact Frz.f _ | (refine Kont.go (by assumption) ?_) | (simp (config := { maxSteps := 3000000 }) (disch := omega) only [go_sem, Nat.reduceEqDiff, ↓reduceIte, Nat.reduceAdd, Nat.reduceLT, Nat.reduceLeDiff, Int.reduceLT, Int.reduceLE, Int.reduceEq, Int.reduceNe, Int.reduceAdd, Int.reduceSub, Int.reduceMul, Int.reduceNeg, Int.reduceToNat, hcm', hcT, hcF, sl_pos hne2, ob_pos hne2, Ns_len, decide_true, htk, Nat.reduceMul, Nat.le_refl, true_and, and_true, and_self])) | refine call_f (rof_frac (by omega) (by omega)) rfl ?_ | refine callQ_f (rof_frac (by omega) (by omega)) rfl ?_ | refine call_f (rcmp_w (by assumption) (by assumption) (by omega) (by omega)) rfl ?_ | refine callQ_f (rcmp_w (by assumption) (by assumption) (by omega) (by omega)) rfl ?_ | refine And.intro (by omega) ?_ | refine And.intro (And.intro (by omega) (by omega)) ?_)
        refine ⟨j + 1, by omega, by omega, weak_ren [2] ⟨by decide, by first | decide | (simp; done)⟩ ?_ ?_⟩ <;> (try simp (disch := omega) only [go_sem, Nat.reduceAdd, Nat.reduceLT, Nat.reduceEqDiff, hsl1, hob1]) <;> (try first | done | omega | rfl | exact ⟨rfl, rfl⟩ | trivial)
      · have e : bPart E l k (j + 1) = bPart E l k j := if_neg hc
        have hslA : sl 0 1 (Ns (bPart E l k (j + 1))) = .own 0 1 0 (bPart E l k j).length := by rw [e, sl_pos hne2, Ns_len]
        have hobA : ob 3 1 (Ns (bPart E l k (j + 1))) = some ⟨3, 1, (Ns (bPart E l k j)).map .f⟩ := by rw [e]; exact ob_pos hne2
        by_cases hc1 : E (l.getD k 0) j = true
        · have hcT : (E (l.getD k 0) j = true) = True := eq_true hc1
          have hcF : decide (j ∈ bPart E l k j) = true := decide_eq_true (Classical.byContradiction fun h => hc ⟨hc1, h⟩)
          repeat (first | (with_reducible first | refine W_seq fun K hK => ?_ | refine J_block ?_ | refine J_skip ?_ | refine J_exit ?_ | refine J_ret ?_ | refine J_region ?_  | refine J_drawn mixed (by kernel_rfl) ?_ | refine aApp_sl ?_ | refine aApp_old ?_ | refine J_c ?_ | refine Jc_true ?_ | refine Jc_false ?_ | exact Frz.f _ | (refine Kont.go (by assumption) ?_) | (simp (config := { maxSteps := 3000000 }) (disch := omega) only [go_sem, Nat.reduceEqDiff, ↓reduceIte, Nat.reduceAdd, Nat.reduceLT, Nat.reduceLeDiff, Int.reduceLT, Int.reduceLE, Int.reduceEq, Int.reduceNe, Int.reduceAdd, Int.reduceSub, Int.reduceMul, Int.reduceNeg, Int.reduceToNat, hcm', hcT, hcF, decide_true, Nat.reduceMul, Nat.le_refl, true_and, and_true, and_self])) | refine call_f (rof_frac (by omega) (by omega)) rfl ?_ | refine callQ_f (rof_frac (by omega) (by omega)) rfl ?_ | refine call_f (rcmp_w (by assumption) (by assumption) (by omega) (by omega)) rfl ?_ | refine callQ_f (rcmp_w (by assumption) (by assumption) (by omega) (by omega)) rfl ?_ | refine And.intro (by omega) ?_ | refine And.intro (And.intro (by omega) (by omega)) ?_)
          refine ⟨j + 1, by omega, by omega, weak_ren [0] ⟨by decide, by first | decide | (simp; done)⟩ ?_ ?_⟩ <;> (try simp (disch := omega) only [go_sem, Nat.reduceAdd, Nat.reduceLT, Nat.reduceEqDiff, hslA, hobA]) <;> (try first | done | omega | rfl | exact ⟨rfl, rfl⟩ | trivial)
        · have hcT : (E (l.getD k 0) j = true) = False := eq_false hc1
          repeat (first | (with_reducible first | refine W_seq fun K hK => ?_ | refine J_block ?_ | refine J_skip ?_ | refine J_exit ?_ | refine J_ret ?_ | refine J_region ?_  | refine J_drawn mixed (by kernel_rfl) ?_ | refine aApp_sl ?_ | refine aApp_old ?_ | refine J_c ?_ | refine Jc_true ?_ | refine Jc_false ?_ | exact Frz.f _ | (refine Kont.go (by assumption) ?_) | (simp (config := { maxSteps := 3000000 }) (disch := omega) only [go_sem, Nat.reduceEqDiff, ↓reduceIte, Nat.reduceAdd, Nat.reduceLT, Nat.reduceLeDiff, Int.reduceLT, Int.reduceLE, Int.reduceEq, Int.reduceNe, Int.reduceAdd, Int.reduceSub, Int.reduceMul, Int.reduceNeg, Int.reduceToNat, hcm', hcT, decide_false, Nat.reduceMul, Nat.le_refl, true_and, and_true, and_self])) | refine call_f (rof_frac (by omega) (by omega)) rfl ?_ | refine callQ_f (rof_frac (by omega) (by omega)) rfl ?_ | refine call_f (rcmp_w (by assumption) (by assumption) (by omega) (by omega)) rfl ?_ | refine callQ_f (rcmp_w (by assumption) (by assumption) (by omega) (by omega)) rfl ?_ | refine And.intro (by omega) ?_ | refine And.intro (And.intro (by omega) (by omega)) ?_)
          refine ⟨j + 1, by omega, by omega, weak_ren [0] ⟨by decide, by first | decide | (simp; done)⟩ ?_ ?_⟩ <;> (try simp (disch := omega) only [go_sem, Nat.reduceAdd, Nat.reduceLT, Nat.reduceEqDiff, hslA, hobA]) <;> (try first | done | omega | rfl | exact ⟨rfl, rfl⟩ | trivial)
    · have he : j = n := by omega
      subst he
      repeat (first | (with_reducible first | refine W_seq fun K hK => ?_ | refine J_block ?_ | refine J_skip ?_ | refine J_exit ?_ | refine J_ret ?_ | refine J_region ?_  | refine J_drawn mixed (by kernel_rfl) ?_ | refine aApp_sl ?_ | refine aApp_old ?_ | refine J_c ?_ | refine Jc_true ?_ | refine Jc_false ?_ | exact Frz.f _ | (refine Kont.go (by assumption) ?_) | (simp (config := { maxSteps := 3000000 }) (disch := omega) only [go_sem, Nat.reduceEqDiff, ↓reduceIte, Nat.reduceAdd, Nat.reduceLT, Nat.reduceLeDiff, Int.reduceLT, Int.reduceLE, Int.reduceEq, Int.reduceNe, Int.reduceAdd, Int.reduceSub, Int.reduceMul, Int.reduceNeg, Int.reduceToNat])) | refine call_f (rof_frac (by omega) (by omega)) rfl ?_ | refine callQ_f (rof_frac (by omega) (by omega)) rfl ?_ | refine call_f (rcmp_w (by assumption) (by assumption) (by omega) (by omega)) rfl ?_ | refine callQ_f (rcmp_w (by assumption) (by assumption) (by omega) (by omega)) rfl ?_ | refine And.intro (by omega) ?_ | refine And.intro (And.intro (by omega) (by omega)) ?_)
      have hB2 := bPart_next hB hkl
      have hC2 : bfsN j E (j + 1 - (k + 1)) (bPart E l k j) (k + 1) = comL j E i := by
        rw [← hC, show j + 1 - k = (j + 1 - (k + 1)) + 1 by omega]
        exact (if_pos hkl).symm
      refine ⟨(bPart E l k j, k + 1), ⟨hB2, hC2, (by show k + 1 ≤ (bPart E l k j).length; omega)⟩, by show j - (k + 1) < j - k; omega, weak_of ?_ ?_⟩ <;> (try simp (disch := omega) only [go_sem, Nat.reduceAdd, Nat.reduceLT, Nat.reduceEqDiff]) <;> (try first | done | omega | rfl | exact ⟨rfl, rfl⟩ | trivial)
  · rw [stop _ _ _ hkl] at hC
    repeat (first | (with_reducible first | refine W_seq fun K hK => ?_ | refine J_block ?_ | refine J_skip ?_ | refine J_exit ?_ | refine J_ret ?_ | refine J_region ?_  | refine J_drawn mixed (by kernel_rfl) ?_ | refine aApp_sl ?_ | refine aApp_old ?_ | refine J_c ?_ | refine Jc_true ?_ | refine Jc_false ?_ | exact Frz.f _ | (refine Kont.go (by assumption) ?_) | (simp (config := { maxSteps := 3000000 }) (disch := omega) only [go_sem, Nat.reduceEqDiff, ↓reduceIte, Nat.reduceAdd, Nat.reduceLT, Nat.reduceLeDiff, Int.reduceLT, Int.reduceLE, Int.reduceEq, Int.reduceNe, Int.reduceAdd, Int.reduceSub, Int.reduceMul, Int.reduceNeg, Int.reduceToNat])) | refine call_f (rof_frac (by omega) (by omega)) rfl ?_ | refine callQ_f (rof_frac (by omega) (by omega)) rfl ?_ | refine call_f (rcmp_w (by assumption) (by assumption) (by omega) (by omega)) rfl ?_ | refine callQ_f (rcmp_w (by assumption) (by assumption) (by omega) (by omega)) rfl ?_ | refine And.intro (by omega) ?_ | refine And.intro (And.intro (by omega) (by omega)) ?_)
    rw [← hC]
    exact Frz.own0 rfl (by rw [Ns_len])
end Go.Proofs.YtabmgfchkcmcmaaDoor
