/- How likely a way is: walked. Conditions: numbers of 1000 bytes each. -/
import Derived.Test.YtabmgfchkcmcmaaDoorHidF
set_option linter.unusedVariables false
set_option linter.unusedSimpArgs false
namespace Go.Proofs.YtabmgfchkcmcmaaDoor
open Go Go.RowKit
section
variable {k : Nat} {fs ms ss : List FV} {st : List Rat} {mv sh : List (List Rat)} {seen : List Int}
theorem wv_fz (ok : HOk k fs ms ss st mv sh seen) (h1 : 1 ≤ k) {p : Nat → Nat} (hp : ∀ j, j < seen.length → p j < st.length) : ∀ {t : Nat}, t ≤ seen.length → Fz ((hm st mv sh seen).wv p t) (8 + t * (2 * k)) := by
  intro t
  induction t with
  | zero => intro _; exact (Fz.int (n := 1) (by decide)).up (by omega)
  | succ t ih =>
    intro ht
    have f1 : Fz (if t = 0 then (hm st mv sh seen).a (p 0) else (hm st mv sh seen).mv (p (t - 1)) (p t)) k := by
      split
      · exact ok.hA h1 (hp 0 (by omega))
      · exact ok.hM h1 (hp _ (by omega)) (hp _ (by omega))
    refine (((ih (by omega)).mul f1).mul (ok.hS h1 (hp t (by omega)) (by omega))).up ?_
    rw [Nat.add_mul]; omega
set_option maxRecDepth 100000 in
set_option maxHeartbeats 4000000 in
theorem wayOf_w (ok : HOk k fs ms ss st mv sh seen) (h1 : 1 ≤ k) (hk : k ≤ 1000) (hs : ∀ x ∈ seen, -9223372036854775808 ≤ x ∧ x ≤ 9223372036854775807) (way : List Nat) (hwl : way.length = seen.length) (hw : ∀ x ∈ way, x < st.length) :
    Good Tryd.prog 53 [hidV fs ms ss, .fz 1 (way.map fun n : Nat => I (n : Int)), ints seen] (fr ((hm st mv sh seen).wv (fun j => way.getD j 0) seen.length)) := by
  have ht8 := ok.t8
  have hn4 := ok.n4
  have hn1 := ok.n1
  obtain ⟨m, hm_⟩ : ∃ m, m = hm st mv sh seen := ⟨_, rfl⟩
  rw [← hm_]
  obtain ⟨p, hp⟩ : ∃ p : Nat → Nat, p = fun j => way.getD j 0 := ⟨_, rfl⟩
  rw [← hp]
  have hpn : ∀ j, j < seen.length → p j < st.length := fun j hj => by rw [hp]; show way.getD j 0 < _; rw [lget_lt way 0 (by omega)]; exact hw _ (List.getElem_mem _)
  have hpg : ∀ j, j < seen.length → (way.map fun n : Nat => I (n : Int))[j]? = some (I (p j : Nat)) := fun j hj => by rw [map_get (fun n : Nat => I (n : Int)) way (by omega), hp]; show _ = some (I ((way.getD j 0 : Nat) : Int)); rw [lget_lt way 0 (by omega)]
  have hml : (way.map fun n : Nat => I (n : Int)).length = seen.length := by rw [List.length_map, hwl]
  have w0 : fr ((1 : Int) : Rat) = fr (m.wv p 0) := rfl
  refine good_of Tryd.func53 rfl (by kernel_rfl) fun X hO => ?_; rw [Tryd.ntmps53, Tryd.results53]; simp only [ast0, List.map_cons, List.map_nil, List.length_cons, List.length_nil, Nat.reduceAdd, Nat.reduceSub, List.replicate_succ, List.replicate_zero, List.cons_append, List.nil_append]
  repeat (first | (with_reducible first | refine W_seq fun K hK => ?_ | refine J_block ?_ | refine J_skip ?_ | refine J_exit ?_ | refine J_ret ?_ | refine J_region ?_  | refine J_drawn mixed (by kernel_rfl) ?_ | refine aApp_sl ?_ | refine aApp_old ?_ | refine J_c ?_ | refine Jc_true ?_ | refine Jc_false ?_ | exact Frz.f _ | (refine Kont.go (by assumption) ?_) | (simp (config := { maxSteps := 3000000 }) (disch := omega) only [go_sem, Nat.reduceEqDiff, ↓reduceIte, Nat.reduceAdd, Nat.reduceLT, Nat.reduceLeDiff, Int.reduceLT, Int.reduceLE, Int.reduceEq, Int.reduceNe, Int.reduceAdd, Int.reduceSub, Int.reduceMul, Int.reduceNeg, Int.reduceToNat])) | refine call_f (rmul_w (by assumption) (by assumption) (by omega) (by omega)) rfl ?_ | refine callQ_f (rmul_w (by assumption) (by assumption) (by omega) (by omega)) rfl ?_ | refine call_f (rof_frac (by omega) (by omega)) rfl ?_ | refine callQ_f (rof_frac (by omega) (by omega)) rfl ?_ | refine And.intro (by omega) ?_ | refine And.intro (And.intro (by omega) (by omega)) ?_)
  refine W_loop [8, 9, 11, 12, 13, 14, 15, 16, 17, 18, 19, 20, 21, 22, 23, 24, 25, 26, 27, 28, 29, 30, 31, 32, 33, 34, 35, 36, 37, 38, 39, 40, 41, 42, 43, 44, 45, 46, 47, 48, 49, 50, 51, 52, 53, 54, 55, 56, 57, 58, 59] (fun x : Nat => [(8, .f (I x))]) (fun x : Nat => [some ⟨68, 3, [.f (hidV fs ms ss)]⟩, oF frN, oF (fr (m.wv p x))]) (fun x : Nat => x ≤ seen.length) (fun x : Nat => seen.length - x) (0) (Nat.zero_le _) (by refine weak_of ?_ ?_ <;> simp only [go_sem, Nat.reduceAdd, Nat.reduceLT, Nat.reduceEqDiff] <;> first | rfl | exact ⟨rfl, rfl⟩ | exact Or.inl rfl | exact ⟨Or.inl rfl, Or.inl rfl⟩ | trivial | assumption | (symm; assumption)) ?_
  rintro t ht
  simp only [go_sem, Nat.reduceAdd, Nat.reduceLT, Nat.reduceEqDiff]
  repeat (first | (with_reducible first | refine W_seq fun K hK => ?_ | refine J_block ?_ | refine J_skip ?_ | refine J_exit ?_ | refine J_ret ?_ | refine J_region ?_  | refine J_drawn mixed (by kernel_rfl) ?_ | refine aApp_sl ?_ | refine aApp_old ?_ | refine J_c ?_ | refine Jc_true ?_ | refine Jc_false ?_ | exact Frz.f _ | (refine Kont.go (by assumption) ?_) | (simp (config := { maxSteps := 3000000 }) (disch := omega) only [go_sem, Nat.reduceEqDiff, ↓reduceIte, Nat.reduceAdd, Nat.reduceLT, Nat.reduceLeDiff, Int.reduceLT, Int.reduceLE, Int.reduceEq, Int.reduceNe, Int.reduceAdd, Int.reduceSub, Int.reduceMul, Int.reduceNeg, Int.reduceToNat, hml])) | refine call_f (rmul_w (by assumption) (by assumption) (by omega) (by omega)) rfl ?_ | refine callQ_f (rmul_w (by assumption) (by assumption) (by omega) (by omega)) rfl ?_ | refine call_f (rof_frac (by omega) (by omega)) rfl ?_ | refine callQ_f (rof_frac (by omega) (by omega)) rfl ?_ | refine And.intro (by omega) ?_ | refine And.intro (And.intro (by omega) (by omega)) ?_)
  refine Jc_if (fun hlt => ?_) (fun hlt => ?_) <;> try simp only [decide_eq_true_eq, decide_eq_false_iff_not, Bool.not_eq_true', Bool.not_eq_false', Bool.not_true, Bool.not_false, Int.ofNat_lt, Int.ofNat_le, Int.natCast_inj, Classical.not_not] at hlt
  · have hpt := hpn t hlt
    have g1 := hpg t hlt
    have hse := ok.se t hlt
    rw [lget_lt seen 0 hlt] at hse
    obtain ⟨g, n, d, x1, f1⟩ := ok.a3 hpt
    obtain ⟨xs2, g2, n2, d2, y2, x2, f2⟩ := ok.s3 hpt hlt
    rw [lget_lt seen 0 hlt] at x2 f2
    have fw := wv_fz ok h1 hpn (t := t) (by omega)
    rw [← hm_] at fw
    have so := Nat.mul_le_mul (show t ≤ 8 by omega) (show 2 * k ≤ 2000 by omega)
    have cw := IsFr.c fw
    have hsg := map_get I seen hlt
    by_cases t0 : t = 0
    · subst t0
      have ew : m.wv p 0 * st.getD (p 0) 0 * at2 sh (p 0) seen[0].toNat = m.wv p 1 := by
        show _ = m.wv p 0 * (if 0 = 0 then m.a (p 0) else m.mv (p (0 - 1)) (p 0)) * m.sh (p 0) (m.s 0)
        rw [if_pos rfl, hm_]
        show _ = _ * at2 sh (p 0) (seen.getD 0 0).toNat
        rw [lget_lt seen 0 hlt]; rfl
      have c2 := IsFr.c (fw.mul (f1.of3 h1))
      repeat (first | (with_reducible first | refine W_seq fun K hK => ?_ | refine J_block ?_ | refine J_skip ?_ | refine J_exit ?_ | refine J_ret ?_ | refine J_region ?_  | refine J_drawn mixed (by kernel_rfl) ?_ | refine aApp_sl ?_ | refine aApp_old ?_ | refine J_c ?_ | refine Jc_true ?_ | refine Jc_false ?_ | exact Frz.f _ | (refine Kont.go (by assumption) ?_) | (simp (config := { maxSteps := 3000000 }) (disch := omega) only [go_sem, Nat.reduceEqDiff, ↓reduceIte, Nat.reduceAdd, Nat.reduceLT, Nat.reduceLeDiff, Int.reduceLT, Int.reduceLE, Int.reduceEq, Int.reduceNe, Int.reduceAdd, Int.reduceSub, Int.reduceMul, Int.reduceNeg, Int.reduceToNat, g1, x1, x2, y2, hsg, ew])) | refine call_f (rmul_w (by assumption) (by assumption) (by omega) (by omega)) rfl ?_ | refine callQ_f (rmul_w (by assumption) (by assumption) (by omega) (by omega)) rfl ?_ | refine call_f (rof_frac (by omega) (by omega)) rfl ?_ | refine callQ_f (rof_frac (by omega) (by omega)) rfl ?_ | refine And.intro (by omega) ?_ | refine And.intro (And.intro (by omega) (by omega)) ?_)
      refine ⟨1, by omega, by omega, weak_of ?_ ?_⟩ <;> (try simp only [go_sem, Nat.reduceAdd, Nat.reduceLT, Nat.reduceEqDiff]) <;> (try first | done | omega | rfl | exact ⟨rfl, rfl⟩ | trivial)
    · have tp : 0 < t := by omega
      have tn : ((t : Int) - 1).toNat = t - 1 := by omega
      have tn0 : 0 ≤ (t : Int) - 1 := by omega
      have hpt2 := hpn (t - 1) (by omega)
      have g3 := hpg (t - 1) (by omega)
      obtain ⟨xs3, g4, n4, d4, y3, x3, f3⟩ := ok.m3 hpt2 hpt
      have ew : m.wv p t * at2 mv (p (t - 1)) (p t) * at2 sh (p t) seen[t].toNat = m.wv p (t + 1) := by
        show _ = m.wv p t * (if t = 0 then m.a (p 0) else m.mv (p (t - 1)) (p t)) * m.sh (p t) (m.s t)
        rw [if_neg t0, hm_]
        show _ = _ * at2 sh (p t) (seen.getD t 0).toNat
        rw [lget_lt seen 0 hlt]; rfl
      have c2 := IsFr.c (fw.mul (f3.of3 h1))
      repeat (first | (with_reducible first | refine W_seq fun K hK => ?_ | refine J_block ?_ | refine J_skip ?_ | refine J_exit ?_ | refine J_ret ?_ | refine J_region ?_  | refine J_drawn mixed (by kernel_rfl) ?_ | refine aApp_sl ?_ | refine aApp_old ?_ | refine J_c ?_ | refine Jc_true ?_ | refine Jc_false ?_ | exact Frz.f _ | (refine Kont.go (by assumption) ?_) | (simp (config := { maxSteps := 3000000 }) (disch := omega) only [go_sem, Nat.reduceEqDiff, ↓reduceIte, Nat.reduceAdd, Nat.reduceLT, Nat.reduceLeDiff, Int.reduceLT, Int.reduceLE, Int.reduceEq, Int.reduceNe, Int.reduceAdd, Int.reduceSub, Int.reduceMul, Int.reduceNeg, Int.reduceToNat, g1, x1, tp, tn, tn0, g3, x3, y3, x2, y2, hsg, ew])) | refine call_f (rmul_w (by assumption) (by assumption) (by omega) (by omega)) rfl ?_ | refine callQ_f (rmul_w (by assumption) (by assumption) (by omega) (by omega)) rfl ?_ | refine call_f (rof_frac (by omega) (by omega)) rfl ?_ | refine callQ_f (rof_frac (by omega) (by omega)) rfl ?_ | refine And.intro (by omega) ?_ | refine And.intro (And.intro (by omega) (by omega)) ?_)
      refine ⟨t + 1, by omega, by omega, weak_of ?_ ?_⟩ <;> (try simp only [go_sem, Nat.reduceAdd, Nat.reduceLT, Nat.reduceEqDiff]) <;> (try first | done | omega | rfl | exact ⟨rfl, rfl⟩ | trivial)
  · have he : t = seen.length := by omega
    subst he
    repeat (first | (with_reducible first | refine W_seq fun K hK => ?_ | refine J_block ?_ | refine J_skip ?_ | refine J_exit ?_ | refine J_ret ?_ | refine J_region ?_  | refine J_drawn mixed (by kernel_rfl) ?_ | refine aApp_sl ?_ | refine aApp_old ?_ | refine J_c ?_ | refine Jc_true ?_ | refine Jc_false ?_ | exact Frz.f _ | (refine Kont.go (by assumption) ?_) | (simp (config := { maxSteps := 3000000 }) (disch := omega) only [go_sem, Nat.reduceEqDiff, ↓reduceIte, Nat.reduceAdd, Nat.reduceLT, Nat.reduceLeDiff, Int.reduceLT, Int.reduceLE, Int.reduceEq, Int.reduceNe, Int.reduceAdd, Int.reduceSub, Int.reduceMul, Int.reduceNeg, Int.reduceToNat])) | refine call_f (rmul_w (by assumption) (by assumption) (by omega) (by omega)) rfl ?_ | refine callQ_f (rmul_w (by assumption) (by assumption) (by omega) (by omega)) rfl ?_ | refine call_f (rof_frac (by omega) (by omega)) rfl ?_ | refine callQ_f (rof_frac (by omega) (by omega)) rfl ?_ | refine And.intro (by omega) ?_ | refine And.intro (And.intro (by omega) (by omega)) ?_)
end
end Go.Proofs.YtabmgfchkcmcmaaDoor
