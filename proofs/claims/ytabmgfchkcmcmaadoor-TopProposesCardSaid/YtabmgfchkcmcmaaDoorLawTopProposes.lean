/- The law TopProposes: it returns true. Condition: what slices may hold. -/
import Derived.Test.YtabmgfchkcmcmaaDoorMetL
import Derived.Test.YtabmgfchkcmcmaaDoorMatW
import Derived.Test.YtabmgfchkcmcmaaDoorAmP
import Derived.Test.YtabmgfchkcmcmaaDoorOpn
set_option linter.unusedVariables false
set_option linter.unusedSimpArgs false
namespace Go.Proofs.YtabmgfchkcmcmaaDoor
open Go Go.RowKit
set_option maxRecDepth 100000 in
theorem heavy_w (ls : List (List Int)) (hl : ls.length ≤ 1000) (hr : ∀ r ∈ ls, r.length ≤ 140737488355328) : Good Tryd.prog 72 [.fz 1 (ls.map ints)] (Bo (decide (512 < (ls.map List.length).sum))) := by
  have hs : ∀ i, i ≤ ls.length → ((ls.take i).map List.length).sum ≤ i * 140737488355328 := by
    intro i
    induction i with
    | zero => intro _; simp
    | succ i ih =>
      intro hi
      have h1 := ih (by omega)
      have h2 := hr _ (List.getElem_mem (show i < ls.length by omega))
      rw [List.take_add_one, List.getElem?_eq_getElem (by omega), List.map_append, List.sum_append]
      show _ + (ls[i].length + 0) ≤ _
      omega
  refine good_of Tryd.func72 rfl (by kernel_rfl) fun X hO => ?_; rw [Tryd.ntmps72, Tryd.results72]; simp only [ast0, List.map_cons, List.map_nil, List.length_cons, List.length_nil, Nat.reduceAdd, Nat.reduceSub, List.replicate_succ, List.replicate_zero, List.cons_append, List.nil_append]
  repeat (first | (with_reducible first | refine W_seq fun K hK => ?_ | refine J_block ?_ | refine J_skip ?_ | refine J_exit ?_ | refine J_ret ?_ | refine J_region ?_ | refine J_drawn mixed (by kernel_rfl) ?_ | refine aApp_sl ?_ | refine aApp_old ?_ | refine J_c ?_ | refine Jc_true ?_ | refine Jc_false ?_ | exact Frz.f _ | (refine Kont.go (by assumption) ?_) | (simp (config := { maxSteps := 3000000 }) (disch := omega) only [go_sem, Nat.reduceEqDiff, ↓reduceIte, Nat.reduceAdd, Nat.reduceLT, Nat.reduceLeDiff, Int.reduceLT, Int.reduceLE, Int.reduceEq, Int.reduceNe, Int.reduceAdd, Int.reduceSub, Int.reduceMul, Int.reduceNeg, Int.reduceToNat, List.length_map])) | refine And.intro (by omega) ?_ | refine And.intro (And.intro (by omega) (by omega)) ?_)
  refine W_loop [3, 4, 5, 6, 7, 8, 9, 10, 11, 12, 13, 14, 15, 16, 17] (fun x : Nat => [(4, .f (I x)), (3, .f (I (((ls.take x).map List.length).sum : Nat)))]) (fun x : Nat => []) (fun x : Nat => x ≤ ls.length) (fun x : Nat => ls.length - x) (0) (Nat.zero_le _) (by refine weak_of ?_ ?_ <;> simp only [go_sem, Nat.reduceAdd, Nat.reduceLT, Nat.reduceEqDiff] <;> first | rfl | exact ⟨rfl, rfl⟩ | exact Or.inl rfl | exact ⟨Or.inl rfl, Or.inl rfl⟩ | trivial | assumption | (symm; assumption)) ?_
  rintro i hi
  simp only [go_sem, Nat.reduceAdd, Nat.reduceLT, Nat.reduceEqDiff]
  have hsi := hs i hi
  repeat (first | (with_reducible first | refine W_seq fun K hK => ?_ | refine J_block ?_ | refine J_skip ?_ | refine J_exit ?_ | refine J_ret ?_ | refine J_region ?_ | refine J_drawn mixed (by kernel_rfl) ?_ | refine aApp_sl ?_ | refine aApp_old ?_ | refine J_c ?_ | refine Jc_true ?_ | refine Jc_false ?_ | exact Frz.f _ | (refine Kont.go (by assumption) ?_) | (simp (config := { maxSteps := 3000000 }) (disch := omega) only [go_sem, Nat.reduceEqDiff, ↓reduceIte, Nat.reduceAdd, Nat.reduceLT, Nat.reduceLeDiff, Int.reduceLT, Int.reduceLE, Int.reduceEq, Int.reduceNe, Int.reduceAdd, Int.reduceSub, Int.reduceMul, Int.reduceNeg, Int.reduceToNat, List.length_map])) | refine And.intro (by omega) ?_ | refine And.intro (And.intro (by omega) (by omega)) ?_)
  refine Jc_if (fun hlt => ?_) (fun hlt => ?_) <;> try simp only [decide_eq_true_eq, decide_eq_false_iff_not, Bool.not_eq_true', Bool.not_eq_false', Bool.not_true, Bool.not_false, Int.ofNat_lt, Int.ofNat_le, Int.natCast_inj, Classical.not_not] at hlt
  · have hli := hr _ (List.getElem_mem hlt)
    have hnx : ((((ls.take i).map List.length).sum : Nat) : Int) + (ls[i].length : Int) = (((ls.take (i + 1)).map List.length).sum : Nat) := by
      rw [List.take_add_one, List.getElem?_eq_getElem hlt, List.map_append, List.sum_append]
      show _ = ((_ + (ls[i].length + 0) : Nat) : Int)
      omega
    repeat (first | (with_reducible first | refine W_seq fun K hK => ?_ | refine J_block ?_ | refine J_skip ?_ | refine J_exit ?_ | refine J_ret ?_ | refine J_region ?_ | refine J_drawn mixed (by kernel_rfl) ?_ | refine aApp_sl ?_ | refine aApp_old ?_ | refine J_c ?_ | refine Jc_true ?_ | refine Jc_false ?_ | exact Frz.f _ | (refine Kont.go (by assumption) ?_) | (simp (config := { maxSteps := 3000000 }) (disch := omega) only [go_sem, Nat.reduceEqDiff, ↓reduceIte, Nat.reduceAdd, Nat.reduceLT, Nat.reduceLeDiff, Int.reduceLT, Int.reduceLE, Int.reduceEq, Int.reduceNe, Int.reduceAdd, Int.reduceSub, Int.reduceMul, Int.reduceNeg, Int.reduceToNat, List.length_map, map_get ints ls hlt, hlt, hnx])) | refine And.intro (by omega) ?_ | refine And.intro (And.intro (by omega) (by omega)) ?_)
    refine ⟨i + 1, by omega, by omega, weak_of ?_ ?_⟩ <;> (try simp only [go_sem, Nat.reduceAdd, Nat.reduceLT, Nat.reduceEqDiff]) <;> (try first | done | omega | rfl | exact ⟨rfl, rfl⟩ | trivial)
  · have he : ls.take i = ls := List.take_of_length_le (by omega)
    rw [he]
    repeat (first | (with_reducible first | refine W_seq fun K hK => ?_ | refine J_block ?_ | refine J_skip ?_ | refine J_exit ?_ | refine J_ret ?_ | refine J_region ?_ | refine J_drawn mixed (by kernel_rfl) ?_ | refine aApp_sl ?_ | refine aApp_old ?_ | refine J_c ?_ | refine Jc_true ?_ | refine Jc_false ?_ | exact Frz.f _ | (refine Kont.go (by assumption) ?_) | (simp (config := { maxSteps := 3000000 }) (disch := omega) only [go_sem, Nat.reduceEqDiff, ↓reduceIte, Nat.reduceAdd, Nat.reduceLT, Nat.reduceLeDiff, Int.reduceLT, Int.reduceLE, Int.reduceEq, Int.reduceNe, Int.reduceAdd, Int.reduceSub, Int.reduceMul, Int.reduceNeg, Int.reduceToNat])) | refine And.intro (by omega) ?_ | refine And.intro (And.intro (by omega) (by omega)) ?_)
    rw [show decide ((512 : Int) < (((ls.map List.length).sum : Nat) : Int)) = decide (512 < (ls.map List.length).sum) by congr 1; exact propext ⟨fun h => by omega, fun h => by omega⟩]
    exact Frz.f _
structure Bal (K : Nat) (w : List Rat) (m : List (List Rat)) : Prop where
  row : Row K w
  mat : ∀ r ∈ m, Row K r
  len : m.length = w.length
  sq : ∀ r ∈ m, List.length r = w.length
  sum : ∀ r ∈ m, sumR r = 1
  pos : ∀ i k, i < w.length → k < w.length → 0 ≤ at2 m i k
  bal : ∀ i k, i < w.length → k < w.length → w.getD i 0 * at2 m i k = w.getD k 0 * at2 m k i
set_option maxRecDepth 100000 in
set_option maxHeartbeats 4000000 in
theorem balanced_w {kk : Nat} {w : List Rat} {m : List (List Rat)} (h : Bal kk w m) (h1 : 1 ≤ kk) (hK : kk ≤ 1000000) (hn : w.length ≤ 1000) : Good Tryd.prog 73 [frs w, rowsF m] (Bo true) := by
  have hml := h.len
  have h0 : IsFr (fr ((0 : Int) : Rat)) ((0 : Int) : Rat) 8 := IsFr.int (by omega) (by omega)
  refine good_of Tryd.func73 rfl (by kernel_rfl) fun X hO => ?_; rw [Tryd.ntmps73, Tryd.results73]; simp only [ast0, List.map_cons, List.map_nil, List.length_cons, List.length_nil, Nat.reduceAdd, Nat.reduceSub, List.replicate_succ, List.replicate_zero, List.cons_append, List.nil_append]
  repeat (first | (with_reducible first | refine W_seq fun K hK => ?_ | refine J_block ?_ | refine J_skip ?_ | refine J_exit ?_ | refine J_ret ?_ | refine J_region ?_ | refine J_drawn mixed (by kernel_rfl) ?_ | refine aApp_sl ?_ | refine aApp_old ?_ | refine J_c ?_ | refine Jc_true ?_ | refine Jc_false ?_ | exact Frz.f _ | (refine Kont.go (by assumption) ?_) | (simp (config := { maxSteps := 3000000 }) (disch := omega) only [go_sem, Nat.reduceEqDiff, ↓reduceIte, Nat.reduceAdd, Nat.reduceLT, Nat.reduceLeDiff, Int.reduceLT, Int.reduceLE, Int.reduceEq, Int.reduceNe, Int.reduceAdd, Int.reduceSub, Int.reduceMul, Int.reduceNeg, Int.reduceToNat, List.length_map, h.len])) | refine call_f (rmul_w (by assumption) (by assumption) (by omega) (by omega)) rfl ?_ | refine callQ_f (rmul_w (by assumption) (by assumption) (by omega) (by omega)) rfl ?_ | refine call_f (rof_frac (by omega) (by omega)) rfl ?_ | refine callQ_f (rof_frac (by omega) (by omega)) rfl ?_ | refine call_f (rcmp_w (by assumption) (by assumption) (by omega) (by omega)) rfl ?_ | refine callQ_f (rcmp_w (by assumption) (by assumption) (by omega) (by omega)) rfl ?_ | refine And.intro (by omega) ?_ | refine And.intro (And.intro (by omega) (by omega)) ?_)
  refine W_loop [4, 5, 6, 7, 8, 9, 10, 11, 12, 13, 14, 15, 16, 17, 18, 19, 20, 21, 22, 23, 24, 25, 26, 27, 28, 29, 30, 31, 32, 33, 34, 35, 36, 37, 38, 39, 40, 41, 42, 43, 44, 45, 46, 47, 48, 49, 50, 51, 52, 53, 54, 55, 56, 57, 58, 59, 60, 61, 62, 63, 64, 65, 66, 67, 68, 69, 70, 71, 72, 73, 74, 75, 76, 77, 78, 79, 80, 81, 82, 83, 84, 85, 86, 87, 88] (fun x : Nat => [(5, .f (I x))]) (fun x : Nat => []) (fun x : Nat => x ≤ w.length) (fun x : Nat => w.length - x) (0) (Nat.zero_le _) (by refine weak_of ?_ ?_ <;> simp only [go_sem, Nat.reduceAdd, Nat.reduceLT, Nat.reduceEqDiff] <;> first | rfl | exact ⟨rfl, rfl⟩ | exact Or.inl rfl | exact ⟨Or.inl rfl, Or.inl rfl⟩ | trivial | assumption | (symm; assumption)) ?_
  rintro i hi
  simp only [go_sem, Nat.reduceAdd, Nat.reduceLT, Nat.reduceEqDiff]
  repeat (first | (with_reducible first | refine W_seq fun K hK => ?_ | refine J_block ?_ | refine J_skip ?_ | refine J_exit ?_ | refine J_ret ?_ | refine J_region ?_ | refine J_drawn mixed (by kernel_rfl) ?_ | refine aApp_sl ?_ | refine aApp_old ?_ | refine J_c ?_ | refine Jc_true ?_ | refine Jc_false ?_ | exact Frz.f _ | (refine Kont.go (by assumption) ?_) | (simp (config := { maxSteps := 3000000 }) (disch := omega) only [go_sem, Nat.reduceEqDiff, ↓reduceIte, Nat.reduceAdd, Nat.reduceLT, Nat.reduceLeDiff, Int.reduceLT, Int.reduceLE, Int.reduceEq, Int.reduceNe, Int.reduceAdd, Int.reduceSub, Int.reduceMul, Int.reduceNeg, Int.reduceToNat, List.length_map, h.len])) | refine call_f (rmul_w (by assumption) (by assumption) (by omega) (by omega)) rfl ?_ | refine callQ_f (rmul_w (by assumption) (by assumption) (by omega) (by omega)) rfl ?_ | refine call_f (rof_frac (by omega) (by omega)) rfl ?_ | refine callQ_f (rof_frac (by omega) (by omega)) rfl ?_ | refine call_f (rcmp_w (by assumption) (by assumption) (by omega) (by omega)) rfl ?_ | refine callQ_f (rcmp_w (by assumption) (by assumption) (by omega) (by omega)) rfl ?_ | refine And.intro (by omega) ?_ | refine And.intro (And.intro (by omega) (by omega)) ?_)
  refine Jc_if (fun hlt => ?_) (fun hlt => ?_) <;> try simp only [decide_eq_true_eq, decide_eq_false_iff_not, Bool.not_eq_true', Bool.not_eq_false', Bool.not_true, Bool.not_false, Int.ofNat_lt, Int.ofNat_le, Int.natCast_inj, Classical.not_not] at hlt
  · have hlm : i < m.length := by omega
    have hil := h.sq _ (List.getElem_mem hlm)
    have his := h.sum _ (List.getElem_mem hlm)
    have hF : Frs kk (m[i].map fr) m[i] := Frs.c (h.mat _ (List.getElem_mem hlm))
    have hone : (1 : Rat) = ((1 : Int) : Rat) := rfl
    repeat (first | (with_reducible first | refine W_seq fun K hK => ?_ | refine J_block ?_ | refine J_skip ?_ | refine J_exit ?_ | refine J_ret ?_ | refine J_region ?_ | refine J_drawn mixed (by kernel_rfl) ?_ | refine aApp_sl ?_ | refine aApp_old ?_ | refine J_c ?_ | refine Jc_true ?_ | refine Jc_false ?_ | exact Frz.f _ | (refine Kont.go (by assumption) ?_) | (simp (config := { maxSteps := 3000000 }) (disch := omega) only [go_sem, Nat.reduceEqDiff, ↓reduceIte, Nat.reduceAdd, Nat.reduceLT, Nat.reduceLeDiff, Int.reduceLT, Int.reduceLE, Int.reduceEq, Int.reduceNe, Int.reduceAdd, Int.reduceSub, Int.reduceMul, Int.reduceNeg, Int.reduceToNat, List.length_map, map_get frs m hlm, hlm, hil])) | refine call_f (rmul_w (by assumption) (by assumption) (by omega) (by omega)) rfl ?_ | refine callQ_f (rmul_w (by assumption) (by assumption) (by omega) (by omega)) rfl ?_ | refine call_f (rof_frac (by omega) (by omega)) rfl ?_ | refine callQ_f (rof_frac (by omega) (by omega)) rfl ?_ | refine call_f (rcmp_w (by assumption) (by assumption) (by omega) (by omega)) rfl ?_ | refine callQ_f (rcmp_w (by assumption) (by assumption) (by omega) (by omega)) rfl ?_ | refine And.intro (by omega) ?_ | refine And.intro (And.intro (by omega) (by omega)) ?_)
    refine call_f (rsum_w hF h1 (by omega) (by omega)) rfl ?_
    rw [his]
    repeat (first | (with_reducible first | refine W_seq fun K hK => ?_ | refine J_block ?_ | refine J_skip ?_ | refine J_exit ?_ | refine J_ret ?_ | refine J_region ?_ | refine J_drawn mixed (by kernel_rfl) ?_ | refine aApp_sl ?_ | refine aApp_old ?_ | refine J_c ?_ | refine Jc_true ?_ | refine Jc_false ?_ | exact Frz.f _ | (refine Kont.go (by assumption) ?_) | (simp (config := { maxSteps := 3000000 }) (disch := omega) only [go_sem, Nat.reduceEqDiff, ↓reduceIte, Nat.reduceAdd, Nat.reduceLT, Nat.reduceLeDiff, Int.reduceLT, Int.reduceLE, Int.reduceEq, Int.reduceNe, Int.reduceAdd, Int.reduceSub, Int.reduceMul, Int.reduceNeg, Int.reduceToNat, hone])) | refine call_f (rmul_w (by assumption) (by assumption) (by omega) (by omega)) rfl ?_ | refine callQ_f (rmul_w (by assumption) (by assumption) (by omega) (by omega)) rfl ?_ | refine call_f (rof_frac (by omega) (by omega)) rfl ?_ | refine callQ_f (rof_frac (by omega) (by omega)) rfl ?_ | refine call_f (rcmp_w (by assumption) (by assumption) (by omega) (by omega)) rfl ?_ | refine callQ_f (rcmp_w (by assumption) (by assumption) (by omega) (by omega)) rfl ?_ | refine And.intro (by omega) ?_ | refine And.intro (And.intro (by omega) (by omega)) ?_)
    refine W_loop [4, 6, 30, 31, 32, 33, 34, 35, 36, 37, 38, 39, 40, 41, 42, 43, 44, 45, 46, 47, 48, 49, 50, 51, 52, 53, 54, 55, 56, 57, 58, 59, 60, 61, 62, 63, 64, 65, 66, 67, 68, 69, 70, 71, 72, 73, 74, 75, 76, 77, 78, 79, 80, 81, 82, 83, 84, 85, 86, 87, 88] (fun x : Nat => [(6, .f (I x))]) (fun x : Nat => []) (fun x : Nat => x ≤ w.length) (fun x : Nat => w.length - x) (0) (Nat.zero_le _) (by refine weak_of ?_ ?_ <;> simp only [go_sem, Nat.reduceAdd, Nat.reduceLT, Nat.reduceEqDiff] <;> first | rfl | exact ⟨rfl, rfl⟩ | exact Or.inl rfl | exact ⟨Or.inl rfl, Or.inl rfl⟩ | trivial | assumption | (symm; assumption)) ?_
    rintro k hk
    simp only [go_sem, Nat.reduceAdd, Nat.reduceLT, Nat.reduceEqDiff]
    repeat (first | (with_reducible first | refine W_seq fun K hK => ?_ | refine J_block ?_ | refine J_skip ?_ | refine J_exit ?_ | refine J_ret ?_ | refine J_region ?_ | refine J_drawn mixed (by kernel_rfl) ?_ | refine aApp_sl ?_ | refine aApp_old ?_ | refine J_c ?_ | refine Jc_true ?_ | refine Jc_false ?_ | exact Frz.f _ | (refine Kont.go (by assumption) ?_) | (simp (config := { maxSteps := 3000000 }) (disch := omega) only [go_sem, Nat.reduceEqDiff, ↓reduceIte, Nat.reduceAdd, Nat.reduceLT, Nat.reduceLeDiff, Int.reduceLT, Int.reduceLE, Int.reduceEq, Int.reduceNe, Int.reduceAdd, Int.reduceSub, Int.reduceMul, Int.reduceNeg, Int.reduceToNat, List.length_map])) | refine call_f (rmul_w (by assumption) (by assumption) (by omega) (by omega)) rfl ?_ | refine callQ_f (rmul_w (by assumption) (by assumption) (by omega) (by omega)) rfl ?_ | refine call_f (rof_frac (by omega) (by omega)) rfl ?_ | refine callQ_f (rof_frac (by omega) (by omega)) rfl ?_ | refine call_f (rcmp_w (by assumption) (by assumption) (by omega) (by omega)) rfl ?_ | refine callQ_f (rcmp_w (by assumption) (by assumption) (by omega) (by omega)) rfl ?_ | refine And.intro (by omega) ?_ | refine And.intro (And.intro (by omega) (by omega)) ?_)
    refine Jc_if (fun hlt2 => ?_) (fun hlt2 => ?_) <;> try simp only [decide_eq_true_eq, decide_eq_false_iff_not, Bool.not_eq_true', Bool.not_eq_false', Bool.not_true, Bool.not_false, Int.ofNat_lt, Int.ofNat_le, Int.natCast_inj, Classical.not_not] at hlt2
    · have hkm : k < m.length := by omega
      have hkl := h.sq _ (List.getElem_mem hkm)
      have hki : k < m[i].length := by omega
      have hik : i < m[k].length := by omega
      have e1 : at2 m i k = m[i][k] := by unfold at2; rw [lget_lt m [] hlm, lget_lt _ 0 hki]
      have e2 : at2 m k i = m[k][i] := by unfold at2; rw [lget_lt m [] hkm, lget_lt _ 0 hik]
      have hp := h.pos i k hlt hlt2
      have hb := h.bal i k hlt hlt2
      rw [e1] at hp
      rw [e1, e2, lget_lt w 0 hlt, lget_lt w 0 hlt2] at hb
      have hnn : ¬ cmpR m[i][k] ((0 : Int) : Rat) < 0 := fun hh => Rat.not_lt.2 hp (by simpa using cmpR_lt.1 hh)
      have f1 := IsFr.c (h.mat _ (List.getElem_mem hlm) _ (List.getElem_mem hki))
      have f2 := IsFr.c (h.mat _ (List.getElem_mem hkm) _ (List.getElem_mem hik))
      have f3 := IsFr.c (h.row _ (List.getElem_mem hlt))
      have f4 := IsFr.c (h.row _ (List.getElem_mem hlt2))
      repeat (first | (with_reducible first | refine W_seq fun K hK => ?_ | refine J_block ?_ | refine J_skip ?_ | refine J_exit ?_ | refine J_ret ?_ | refine J_region ?_ | refine J_drawn mixed (by kernel_rfl) ?_ | refine aApp_sl ?_ | refine aApp_old ?_ | refine J_c ?_ | refine Jc_true ?_ | refine Jc_false ?_ | exact Frz.f _ | (refine Kont.go (by assumption) ?_) | (simp (config := { maxSteps := 3000000 }) (disch := omega) only [go_sem, Nat.reduceEqDiff, ↓reduceIte, Nat.reduceAdd, Nat.reduceLT, Nat.reduceLeDiff, Int.reduceLT, Int.reduceLE, Int.reduceEq, Int.reduceNe, Int.reduceAdd, Int.reduceSub, Int.reduceMul, Int.reduceNeg, Int.reduceToNat, List.length_map, map_get frs m hlm, map_get frs m hkm, map_get fr m[i] hki, map_get fr m[k] hik, map_get fr w hlt, map_get fr w hlt2, hlm, hil, hkl, hkm, hlt, hlt2, hki, hik, hnn, hb])) | refine call_f (rmul_w (by assumption) (by assumption) (by omega) (by omega)) rfl ?_ | refine callQ_f (rmul_w (by assumption) (by assumption) (by omega) (by omega)) rfl ?_ | refine call_f (rof_frac (by omega) (by omega)) rfl ?_ | refine callQ_f (rof_frac (by omega) (by omega)) rfl ?_ | refine call_f (rcmp_w (by assumption) (by assumption) (by omega) (by omega)) rfl ?_ | refine callQ_f (rcmp_w (by assumption) (by assumption) (by omega) (by omega)) rfl ?_ | refine And.intro (by omega) ?_ | refine And.intro (And.intro (by omega) (by omega)) ?_)
      refine ⟨k + 1, by omega, by omega, weak_of ?_ ?_⟩ <;> (try simp only [go_sem, Nat.reduceAdd, Nat.reduceLT, Nat.reduceEqDiff]) <;> (try first | done | omega | rfl | exact ⟨rfl, rfl⟩ | trivial)
    · repeat (first | (with_reducible first | refine W_seq fun K hK => ?_ | refine J_block ?_ | refine J_skip ?_ | refine J_exit ?_ | refine J_ret ?_ | refine J_region ?_ | refine J_drawn mixed (by kernel_rfl) ?_ | refine aApp_sl ?_ | refine aApp_old ?_ | refine J_c ?_ | refine Jc_true ?_ | refine Jc_false ?_ | exact Frz.f _ | (refine Kont.go (by assumption) ?_) | (simp (config := { maxSteps := 3000000 }) (disch := omega) only [go_sem, Nat.reduceEqDiff, ↓reduceIte, Nat.reduceAdd, Nat.reduceLT, Nat.reduceLeDiff, Int.reduceLT, Int.reduceLE, Int.reduceEq, Int.reduceNe, Int.reduceAdd, Int.reduceSub, Int.reduceMul, Int.reduceNeg, Int.reduceToNat])) | refine call_f (rmul_w (by assumption) (by assumption) (by omega) (by omega)) rfl ?_ | refine callQ_f (rmul_w (by assumption) (by assumption) (by omega) (by omega)) rfl ?_ | refine call_f (rof_frac (by omega) (by omega)) rfl ?_ | refine callQ_f (rof_frac (by omega) (by omega)) rfl ?_ | refine call_f (rcmp_w (by assumption) (by assumption) (by omega) (by omega)) rfl ?_ | refine callQ_f (rcmp_w (by assumption) (by assumption) (by omega) (by omega)) rfl ?_ | refine And.intro (by omega) ?_ | refine And.intro (And.intro (by omega) (by omega)) ?_)
      refine ⟨i + 1, by omega, by omega, weak_of ?_ ?_⟩ <;> (try simp only [go_sem, Nat.reduceAdd, Nat.reduceLT, Nat.reduceEqDiff]) <;> (try first | done | omega | rfl | exact ⟨rfl, rfl⟩ | trivial)
  · repeat (first | (with_reducible first | refine W_seq fun K hK => ?_ | refine J_block ?_ | refine J_skip ?_ | refine J_exit ?_ | refine J_ret ?_ | refine J_region ?_ | refine J_drawn mixed (by kernel_rfl) ?_ | refine aApp_sl ?_ | refine aApp_old ?_ | refine J_c ?_ | refine Jc_true ?_ | refine Jc_false ?_ | exact Frz.f _ | (refine Kont.go (by assumption) ?_) | (simp (config := { maxSteps := 3000000 }) (disch := omega) only [go_sem, Nat.reduceEqDiff, ↓reduceIte, Nat.reduceAdd, Nat.reduceLT, Nat.reduceLeDiff, Int.reduceLT, Int.reduceLE, Int.reduceEq, Int.reduceNe, Int.reduceAdd, Int.reduceSub, Int.reduceMul, Int.reduceNeg, Int.reduceToNat, List.length_map, h.len])) | refine call_f (rmul_w (by assumption) (by assumption) (by omega) (by omega)) rfl ?_ | refine callQ_f (rmul_w (by assumption) (by assumption) (by omega) (by omega)) rfl ?_ | refine call_f (rof_frac (by omega) (by omega)) rfl ?_ | refine callQ_f (rof_frac (by omega) (by omega)) rfl ?_ | refine call_f (rcmp_w (by assumption) (by assumption) (by omega) (by omega)) rfl ?_ | refine callQ_f (rcmp_w (by assumption) (by assumption) (by omega) (by omega)) rfl ?_ | refine And.intro (by omega) ?_ | refine And.intro (And.intro (by omega) (by omega)) ?_)
def wtX (w : List Int) (i : Nat) : Nat := if w = [] then i else pickN (w.getD (i % w.length) 0) 9
def wtL (w : List Int) (n : Nat) : List Rat := (List.range n).map fun i => (((wtX w i : Nat) : Int) : Rat)
theorem wtL_len (w : List Int) (n : Nat) : (wtL w n).length = n := by simp [wtL]
theorem wtL_next (w : List Int) (n : Nat) : (wtL w n).map fr ++ [fr (((wtX w n : Nat) : Int) : Rat)] = (wtL w (n + 1)).map fr := by simp [wtL, List.range_succ]
theorem wtX_le (w : List Int) {i : Nat} (hi : i ≤ 1000) : wtX w i ≤ 1000 := by
  unfold wtX
  split
  · exact hi
  · have := pickN_lt (w.getD (i % w.length) 0) (n := 9) (by omega); omega
theorem wtL_row (w : List Int) {n : Nat} (hn : n ≤ 1000) : Row 8 (wtL w n) := fun q hq => by
  obtain ⟨i, hi, rfl⟩ := List.mem_map.1 hq
  have := wtX_le w (i := i) (by have := List.mem_range.1 hi; omega)
  exact Fz.int (by omega)
theorem wtL_nonneg (w : List Int) (n : Nat) : ∀ q ∈ wtL w n, 0 ≤ q := fun q hq => by
  obtain ⟨i, hi, rfl⟩ := List.mem_map.1 hq
  exact Rat.intCast_nonneg.2 (by omega)
theorem getD_nonneg {l : List Rat} (h : ∀ q ∈ l, 0 ≤ q) (j : Nat) : 0 ≤ l.getD j 0 := by
  by_cases hj : j < l.length
  · rw [lget_lt l 0 hj]; exact h _ (List.getElem_mem hj)
  · rw [List.getD_eq_getElem?_getD, List.getElem?_eq_none (by omega)]; exact Rat.le_refl
theorem met_bal {ws w : List Int} {n : Nat} (h1 : 1 ≤ n) (hn : n ≤ 6) : metE (wtL ws n) (matR w n n) = 0 ∧ Bal 200 (wtL ws n) (metR (wtL ws n) (matR w n n)) := by
  have hq0 : ∀ i k, 0 ≤ at2 (matR w n n) i k := matR_at
  have hw0 := getD_nonneg (wtL_nonneg ws n)
  have hl := wtL_len ws n
  have e : metE (wtL ws n) (matR w n n) = 0 := by
    unfold metE
    rw [if_neg (by simp [matR_chk h1 hn]), if_neg (by simp [hl, matR_len]), if_neg fun hh => hh (wtL_nonneg ws n)]
  have hf : Fit 8 (wtL ws n) (matR w n n) := ⟨wtL_row ws (by omega), matR_Row h1 (by omega), by rw [hl, matR_len], fun r hr => by rw [matR_len]; exact matR_row r hr, by rw [matR_len]; exact hn⟩
  have em : metR (wtL ws n) (matR w n n) = metRows (wtL ws n) (matR w n n) n := by unfold metR; rw [if_pos e, hl]
  have mem : ∀ r ∈ metRows (wtL ws n) (matR w n n) n, ∃ i, i < n ∧ r = metRow (wtL ws n) (matR w n n) i := fun r hr => by
    obtain ⟨i, hi, rfl⟩ := List.mem_map.1 hr
    exact ⟨i, List.mem_range.1 hi, rfl⟩
  have at_ : ∀ i, i < n → (metRows (wtL ws n) (matR w n n) n).getD i [] = metRow (wtL ws n) (matR w n n) i := fun i hi => by simp [metRows, List.getD, hi]
  rw [em]
  refine ⟨e, fun q hq => (wtL_row ws (n := n) (by omega) q hq).up (by omega), fun r hr => ?_, by rw [metRows_len, hl], fun r hr => ?_, fun r hr => ?_, fun i k hi hk => ?_, fun i k hi hk => ?_⟩
  · obtain ⟨i, hi, rfl⟩ := mem r hr
    have hi' : i < (matR w n n).length := by rw [matR_len]; exact hi
    intro q hq
    obtain ⟨k, hk, rfl⟩ := List.mem_map.1 hq
    have hk' : k < (matR w n n).length := by have := List.mem_range.1 hk; rw [matR_len]; omega
    split
    · have h9 : Fz (1 : Rat) 8 := Fz.int (n := 1) (by decide)
      have := h9.sub (hf.off hi' (wtL ws n).length (by rw [matR_len, hl]; omega))
      rw [hl] at this ⊢
      exact this.up (by have := Nat.mul_le_mul_right 25 hn; omega)
    · exact (hf.fm hi' hk').up (by omega)
  · obtain ⟨i, hi, rfl⟩ := mem r hr
    simp [metRow]
  · obtain ⟨i, hi, rfl⟩ := mem r hr
    exact metRow_sum (by omega)
  · unfold at2
    rw [at_ i (by omega)]
    exact metRow_nonneg hk hw0 hq0 (by rw [hl]; exact matR_sumTo h1 (by omega))
  · unfold at2
    rw [at_ i (by omega), at_ k (by omega)]
    exact metRow_bal hi hk hw0 hq0
set_option maxRecDepth 100000 in
set_option maxHeartbeats 4000000 in
theorem topProposes_good (ws w : List Int) (n : Int) (hws : OkIs ws) (hw : OkIs w) (hn : OkI n) : Good Tryd.prog 13 [ints ws, ints w, I n] (Bo true) := by
  obtain ⟨hn0, hn1⟩ := hn
  have hm := pickN_lt n (n := 5) (by omega)
  have hhv := heavy_w [ws, w] (by simp) (by simp; exact ⟨hws.1, hw.1⟩)
  refine good_of Tryd.func13 rfl (by kernel_rfl) fun X hO => ?_; rw [Tryd.ntmps13, Tryd.results13]; simp only [ast0, List.map_cons, List.map_nil, List.length_cons, List.length_nil, Nat.reduceAdd, Nat.reduceSub, List.replicate_succ, List.replicate_zero, List.cons_append, List.nil_append]
  repeat (first | (with_reducible first | refine W_seq fun K hK => ?_ | refine J_block ?_ | refine J_skip ?_ | refine J_exit ?_ | refine J_ret ?_ | refine J_region ?_ | refine J_drawn mixed (by kernel_rfl) ?_ | refine aApp_sl ?_ | refine aApp_old ?_ | refine J_c ?_ | refine Jc_true ?_ | refine Jc_false ?_ | exact Frz.f _ | (refine Kont.go (by assumption) ?_) | (simp (config := { maxSteps := 3000000 }) (disch := omega) only [go_sem, Nat.reduceEqDiff, ↓reduceIte, Nat.reduceAdd, Nat.reduceLT, Nat.reduceLeDiff, Int.reduceLT, Int.reduceLE, Int.reduceEq, Int.reduceNe, Int.reduceAdd, Int.reduceSub, Int.reduceMul, Int.reduceNeg, Int.reduceToNat])) | refine call_f (pickI _ _ (by omega) (by omega) (by omega) (by omega)) rfl ?_ | refine callQ_f (pickI _ _ (by omega) (by omega) (by omega) (by omega)) rfl ?_ | refine call_f (rof_frac (by omega) (by omega)) rfl ?_ | refine callQ_f (rof_frac (by omega) (by omega)) rfl ?_ | refine And.intro (by omega) ?_ | refine And.intro (And.intro (by omega) (by omega)) ?_)
  refine call_fl hhv (.v _) ?hz ?_
  case hz => exact FrzL.cons (Frz.own0 (ds := [ints ws, ints w]) rfl rfl) (FrzL.nil _)
  repeat (first | (with_reducible first | refine W_seq fun K hK => ?_ | refine J_block ?_ | refine J_skip ?_ | refine J_exit ?_ | refine J_ret ?_ | refine J_region ?_ | refine J_drawn mixed (by kernel_rfl) ?_ | refine aApp_sl ?_ | refine aApp_old ?_ | refine J_c ?_ | refine Jc_true ?_ | refine Jc_false ?_ | exact Frz.f _ | (refine Kont.go (by assumption) ?_) | (simp (config := { maxSteps := 3000000 }) (disch := omega) only [go_sem, Nat.reduceEqDiff, ↓reduceIte, Nat.reduceAdd, Nat.reduceLT, Nat.reduceLeDiff, Int.reduceLT, Int.reduceLE, Int.reduceEq, Int.reduceNe, Int.reduceAdd, Int.reduceSub, Int.reduceMul, Int.reduceNeg, Int.reduceToNat])) | refine call_f (pickI _ _ (by omega) (by omega) (by omega) (by omega)) rfl ?_ | refine callQ_f (pickI _ _ (by omega) (by omega) (by omega) (by omega)) rfl ?_ | refine call_f (rof_frac (by omega) (by omega)) rfl ?_ | refine callQ_f (rof_frac (by omega) (by omega)) rfl ?_ | refine And.intro (by omega) ?_ | refine And.intro (And.intro (by omega) (by omega)) ?_)
  refine Jc_if (fun hh => ?_) (fun hh => ?_) <;> try simp only [decide_eq_true_eq, decide_eq_false_iff_not, Bool.not_eq_true', Bool.not_eq_false', Bool.not_true, Bool.not_false, Int.ofNat_lt, Int.ofNat_le, Int.natCast_inj, Classical.not_not] at hh
  · repeat (first | (with_reducible first | refine W_seq fun K hK => ?_ | refine J_block ?_ | refine J_skip ?_ | refine J_exit ?_ | refine J_ret ?_ | refine J_region ?_ | refine J_drawn mixed (by kernel_rfl) ?_ | refine aApp_sl ?_ | refine aApp_old ?_ | refine J_c ?_ | refine Jc_true ?_ | refine Jc_false ?_ | exact Frz.f _ | (refine Kont.go (by assumption) ?_) | (simp (config := { maxSteps := 3000000 }) (disch := omega) only [go_sem, Nat.reduceEqDiff, ↓reduceIte, Nat.reduceAdd, Nat.reduceLT, Nat.reduceLeDiff, Int.reduceLT, Int.reduceLE, Int.reduceEq, Int.reduceNe, Int.reduceAdd, Int.reduceSub, Int.reduceMul, Int.reduceNeg, Int.reduceToNat])) | refine call_f (pickI _ _ (by omega) (by omega) (by omega) (by omega)) rfl ?_ | refine callQ_f (pickI _ _ (by omega) (by omega) (by omega) (by omega)) rfl ?_ | refine call_f (rof_frac (by omega) (by omega)) rfl ?_ | refine callQ_f (rof_frac (by omega) (by omega)) rfl ?_ | refine And.intro (by omega) ?_ | refine And.intro (And.intro (by omega) (by omega)) ?_)
  obtain ⟨m, em⟩ : ∃ m, m = 1 + pickN n 5 := ⟨_, rfl⟩
  have hm1 : 1 ≤ m := by omega
  have hm5 : m ≤ 5 := by omega
  have hnm : (1 : Int) + (pickN n 5 : Int) = (m : Int) := by omega
  repeat (first | (with_reducible first | refine W_seq fun K hK => ?_ | refine J_block ?_ | refine J_skip ?_ | refine J_exit ?_ | refine J_ret ?_ | refine J_region ?_ | refine J_drawn mixed (by kernel_rfl) ?_ | refine aApp_sl ?_ | refine aApp_old ?_ | refine J_c ?_ | refine Jc_true ?_ | refine Jc_false ?_ | exact Frz.f _ | (refine Kont.go (by assumption) ?_) | (simp (config := { maxSteps := 3000000 }) (disch := omega) only [go_sem, Nat.reduceEqDiff, ↓reduceIte, Nat.reduceAdd, Nat.reduceLT, Nat.reduceLeDiff, Int.reduceLT, Int.reduceLE, Int.reduceEq, Int.reduceNe, Int.reduceAdd, Int.reduceSub, Int.reduceMul, Int.reduceNeg, Int.reduceToNat, hnm])) | refine call_f (pickI _ _ (by omega) (by omega) (by omega) (by omega)) rfl ?_ | refine callQ_f (pickI _ _ (by omega) (by omega) (by omega) (by omega)) rfl ?_ | refine call_f (rof_frac (by omega) (by omega)) rfl ?_ | refine callQ_f (rof_frac (by omega) (by omega)) rfl ?_ | refine And.intro (by omega) ?_ | refine And.intro (And.intro (by omega) (by omega)) ?_)
  refine call_f (matrixOf_w w m hw.2 hm1 (by omega) hw.1) rfl ?_
  repeat (first | (with_reducible first | refine W_seq fun K hK => ?_ | refine J_block ?_ | refine J_skip ?_ | refine J_exit ?_ | refine J_ret ?_ | refine J_region ?_ | refine J_drawn mixed (by kernel_rfl) ?_ | refine aApp_sl ?_ | refine aApp_old ?_ | refine J_c ?_ | refine Jc_true ?_ | refine Jc_false ?_ | exact Frz.f _ | (refine Kont.go (by assumption) ?_) | (simp (config := { maxSteps := 3000000 }) (disch := omega) only [go_sem, Nat.reduceEqDiff, ↓reduceIte, Nat.reduceAdd, Nat.reduceLT, Nat.reduceLeDiff, Int.reduceLT, Int.reduceLE, Int.reduceEq, Int.reduceNe, Int.reduceAdd, Int.reduceSub, Int.reduceMul, Int.reduceNeg, Int.reduceToNat])) | refine call_f (pickI _ _ (by omega) (by omega) (by omega) (by omega)) rfl ?_ | refine callQ_f (pickI _ _ (by omega) (by omega) (by omega) (by omega)) rfl ?_ | refine call_f (rof_frac (by omega) (by omega)) rfl ?_ | refine callQ_f (rof_frac (by omega) (by omega)) rfl ?_ | refine And.intro (by omega) ?_ | refine And.intro (And.intro (by omega) (by omega)) ?_)
  refine J_reserve ?_
  refine W_loop [8, 9, 10, 23, 24, 25, 26, 27, 28, 29, 30, 31, 32, 33, 34, 35, 36, 37, 38, 39, 40, 41, 42, 43, 44] (fun x : Nat => [(9, .f (I x)), (8, sl 1 3 ((wtL ws x).map fr))]) (fun x : Nat => [none, ob 55 3 ((wtL ws x).map fr)]) (fun x : Nat => x ≤ m) (fun x : Nat => m - x) (0) (Nat.zero_le _) (by refine weak_of ?_ ?_ <;> simp only [go_sem, Nat.reduceAdd, Nat.reduceLT, Nat.reduceEqDiff] <;> first | rfl | exact ⟨rfl, rfl⟩ | exact Or.inl rfl | exact ⟨Or.inl rfl, Or.inl rfl⟩ | trivial | assumption | (symm; assumption)) ?_
  rintro i hi
  simp only [go_sem, Nat.reduceAdd, Nat.reduceLT, Nat.reduceEqDiff]
  repeat (first | (with_reducible first | refine W_seq fun K hK => ?_ | refine J_block ?_ | refine J_skip ?_ | refine J_exit ?_ | refine J_ret ?_ | refine J_region ?_ | refine J_drawn mixed (by kernel_rfl) ?_ | refine aApp_sl ?_ | refine aApp_old ?_ | refine J_c ?_ | refine Jc_true ?_ | refine Jc_false ?_ | exact Frz.f _ | (refine Kont.go (by assumption) ?_) | (simp (config := { maxSteps := 3000000 }) (disch := omega) only [go_sem, Nat.reduceEqDiff, ↓reduceIte, Nat.reduceAdd, Nat.reduceLT, Nat.reduceLeDiff, Int.reduceLT, Int.reduceLE, Int.reduceEq, Int.reduceNe, Int.reduceAdd, Int.reduceSub, Int.reduceMul, Int.reduceNeg, Int.reduceToNat])) | refine call_f (pickI _ _ (by omega) (by omega) (by omega) (by omega)) rfl ?_ | refine callQ_f (pickI _ _ (by omega) (by omega) (by omega) (by omega)) rfl ?_ | refine call_f (rof_frac (by omega) (by omega)) rfl ?_ | refine callQ_f (rof_frac (by omega) (by omega)) rfl ?_ | refine And.intro (by omega) ?_ | refine And.intro (And.intro (by omega) (by omega)) ?_)
  refine Jc_if (fun hlt => ?_) (fun hlt => ?_) <;> try simp only [decide_eq_true_eq, decide_eq_false_iff_not, Bool.not_eq_true', Bool.not_eq_false', Bool.not_true, Bool.not_false, Int.ofNat_lt, Int.ofNat_le, Int.natCast_inj, Classical.not_not] at hlt
  · have hnx := wtL_next ws i
    have hx9 := wtX_le ws (i := i) (by omega)
    by_cases hw0 : ws = []
    · have hx1 : wtX ws i = i := by unfold wtX; rw [if_pos hw0]
      rw [hx1] at hnx
      have hwl0 : ws.length = 0 := by rw [hw0]; rfl
      repeat (first | (with_reducible first | refine W_seq fun K hK => ?_ | refine J_block ?_ | refine J_skip ?_ | refine J_exit ?_ | refine J_ret ?_ | refine J_region ?_ | refine J_drawn mixed (by kernel_rfl) ?_ | refine aApp_sl ?_ | refine aApp_old ?_ | refine J_c ?_ | refine Jc_true ?_ | refine Jc_false ?_ | exact Frz.f _ | (refine Kont.go (by assumption) ?_) | (simp (config := { maxSteps := 3000000 }) (disch := omega) only [go_sem, Nat.reduceEqDiff, ↓reduceIte, Nat.reduceAdd, Nat.reduceLT, Nat.reduceLeDiff, Int.reduceLT, Int.reduceLE, Int.reduceEq, Int.reduceNe, Int.reduceAdd, Int.reduceSub, Int.reduceMul, Int.reduceNeg, Int.reduceToNat, List.length_map, wtL_len, hwl0, hnx])) | refine call_f (pickI _ _ (by omega) (by omega) (by omega) (by omega)) rfl ?_ | refine callQ_f (pickI _ _ (by omega) (by omega) (by omega) (by omega)) rfl ?_ | refine call_f (rof_frac (by omega) (by omega)) rfl ?_ | refine callQ_f (rof_frac (by omega) (by omega)) rfl ?_ | refine And.intro (by omega) ?_ | refine And.intro (And.intro (by omega) (by omega)) ?_)
      refine ⟨i + 1, by omega, by omega, weak_of ?_ ?_⟩ <;> (try simp only [go_sem, Nat.reduceAdd, Nat.reduceLT, Nat.reduceEqDiff]) <;> (try first | done | omega | rfl | exact ⟨rfl, rfl⟩ | trivial)
    · have hwp : 0 < ws.length := List.length_pos_iff.2 hw0
      have hmm : i % ws.length < ws.length := Nat.mod_lt _ hwp
      have hwl := hws.1
      have hx := i64_get hws.2 hmm
      have hxx : wtX ws i = pickN ws[i % ws.length] 9 := by unfold wtX; rw [if_neg hw0, lget_lt ws 0 hmm]
      have hmod : (i : Int).tmod (ws.length : Int) = ((i % ws.length : Nat) : Int) := tmod_nat (by omega)
      rw [hxx] at hnx hx9
      repeat (first | (with_reducible first | refine W_seq fun K hK => ?_ | refine J_block ?_ | refine J_skip ?_ | refine J_exit ?_ | refine J_ret ?_ | refine J_region ?_ | refine J_drawn mixed (by kernel_rfl) ?_ | refine aApp_sl ?_ | refine aApp_old ?_ | refine J_c ?_ | refine Jc_true ?_ | refine Jc_false ?_ | exact Frz.f _ | (refine Kont.go (by assumption) ?_) | (simp (config := { maxSteps := 3000000 }) (disch := omega) only [go_sem, Nat.reduceEqDiff, ↓reduceIte, Nat.reduceAdd, Nat.reduceLT, Nat.reduceLeDiff, Int.reduceLT, Int.reduceLE, Int.reduceEq, Int.reduceNe, Int.reduceAdd, Int.reduceSub, Int.reduceMul, Int.reduceNeg, Int.reduceToNat, List.length_map, wtL_len, hwp, hmod, map_get I ws hmm, hnx])) | refine call_f (pickI _ _ (by omega) (by omega) (by omega) (by omega)) rfl ?_ | refine callQ_f (pickI _ _ (by omega) (by omega) (by omega) (by omega)) rfl ?_ | refine call_f (rof_frac (by omega) (by omega)) rfl ?_ | refine callQ_f (rof_frac (by omega) (by omega)) rfl ?_ | refine And.intro (by omega) ?_ | refine And.intro (And.intro (by omega) (by omega)) ?_)
      refine ⟨i + 1, by omega, by omega, weak_of ?_ ?_⟩ <;> (try simp only [go_sem, Nat.reduceAdd, Nat.reduceLT, Nat.reduceEqDiff]) <;> (try first | done | omega | rfl | exact ⟨rfl, rfl⟩ | trivial)
  · have he : i = m := by omega
    subst he
    obtain ⟨hE, hB⟩ := met_bal (ws := ws) (w := w) hm1 (by omega : i ≤ 6)
    have hmet := met_w (Frs.c (wtL_row ws (n := i) (by omega))) (FrM.c (matR_Row (w := w) hm1 (by omega))) (by omega) (by omega) (by rw [wtL_len]; omega) (by rw [matR_len]; omega)
    rw [hE] at hmet
    refine J_freeze (j := 8) rfl rfl ?_
    repeat (first | (with_reducible first | refine W_seq fun K hK => ?_ | refine J_block ?_ | refine J_skip ?_ | refine J_exit ?_ | refine J_ret ?_ | refine J_region ?_ | refine J_drawn mixed (by kernel_rfl) ?_ | refine aApp_sl ?_ | refine aApp_old ?_ | refine J_c ?_ | refine Jc_true ?_ | refine Jc_false ?_ | exact Frz.f _ | (refine Kont.go (by assumption) ?_) | (simp (config := { maxSteps := 3000000 }) (disch := omega) only [go_sem, Nat.reduceEqDiff, ↓reduceIte, Nat.reduceAdd, Nat.reduceLT, Nat.reduceLeDiff, Int.reduceLT, Int.reduceLE, Int.reduceEq, Int.reduceNe, Int.reduceAdd, Int.reduceSub, Int.reduceMul, Int.reduceNeg, Int.reduceToNat])) | refine call_f (pickI _ _ (by omega) (by omega) (by omega) (by omega)) rfl ?_ | refine callQ_f (pickI _ _ (by omega) (by omega) (by omega) (by omega)) rfl ?_ | refine call_f (rof_frac (by omega) (by omega)) rfl ?_ | refine callQ_f (rof_frac (by omega) (by omega)) rfl ?_ | refine And.intro (by omega) ?_ | refine And.intro (And.intro (by omega) (by omega)) ?_)
    refine call_f hmet rfl ?_
    repeat (first | (with_reducible first | refine W_seq fun K hK => ?_ | refine J_block ?_ | refine J_skip ?_ | refine J_exit ?_ | refine J_ret ?_ | refine J_region ?_ | refine J_drawn mixed (by kernel_rfl) ?_ | refine aApp_sl ?_ | refine aApp_old ?_ | refine J_c ?_ | refine Jc_true ?_ | refine Jc_false ?_ | exact Frz.f _ | (refine Kont.go (by assumption) ?_) | (simp (config := { maxSteps := 3000000 }) (disch := omega) only [go_sem, Nat.reduceEqDiff, ↓reduceIte, Nat.reduceAdd, Nat.reduceLT, Nat.reduceLeDiff, Int.reduceLT, Int.reduceLE, Int.reduceEq, Int.reduceNe, Int.reduceAdd, Int.reduceSub, Int.reduceMul, Int.reduceNeg, Int.reduceToNat])) | refine call_f (pickI _ _ (by omega) (by omega) (by omega) (by omega)) rfl ?_ | refine callQ_f (pickI _ _ (by omega) (by omega) (by omega) (by omega)) rfl ?_ | refine call_f (rof_frac (by omega) (by omega)) rfl ?_ | refine callQ_f (rof_frac (by omega) (by omega)) rfl ?_ | refine And.intro (by omega) ?_ | refine And.intro (And.intro (by omega) (by omega)) ?_)
    refine call_f (balanced_w hB (by omega) (by omega) (by rw [wtL_len]; omega)) rfl ?_
    repeat (first | (with_reducible first | refine W_seq fun K hK => ?_ | refine J_block ?_ | refine J_skip ?_ | refine J_exit ?_ | refine J_ret ?_ | refine J_region ?_ | refine J_drawn mixed (by kernel_rfl) ?_ | refine aApp_sl ?_ | refine aApp_old ?_ | refine J_c ?_ | refine Jc_true ?_ | refine Jc_false ?_ | exact Frz.f _ | (refine Kont.go (by assumption) ?_) | (simp (config := { maxSteps := 3000000 }) (disch := omega) only [go_sem, Nat.reduceEqDiff, ↓reduceIte, Nat.reduceAdd, Nat.reduceLT, Nat.reduceLeDiff, Int.reduceLT, Int.reduceLE, Int.reduceEq, Int.reduceNe, Int.reduceAdd, Int.reduceSub, Int.reduceMul, Int.reduceNeg, Int.reduceToNat])) | refine call_f (pickI _ _ (by omega) (by omega) (by omega) (by omega)) rfl ?_ | refine callQ_f (pickI _ _ (by omega) (by omega) (by omega) (by omega)) rfl ?_ | refine call_f (rof_frac (by omega) (by omega)) rfl ?_ | refine callQ_f (rof_frac (by omega) (by omega)) rfl ?_ | refine And.intro (by omega) ?_ | refine And.intro (And.intro (by omega) (by omega)) ?_)
end Go.Proofs.YtabmgfchkcmcmaaDoor
