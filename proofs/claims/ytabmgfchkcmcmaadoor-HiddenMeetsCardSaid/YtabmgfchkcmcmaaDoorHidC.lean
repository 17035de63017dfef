/- Hidden chains: all ways on from a state: walked. Conditions: numbers of 1000 bytes each. -/
import Derived.Test.YtabmgfchkcmcmaaDoorHidB
import Derived.Test.YtabmgfchkcmcmaaDoorAmQ
set_option linter.unusedVariables false
set_option linter.unusedSimpArgs false
namespace Go.Proofs.YtabmgfchkcmcmaaDoor
open Go Go.RowKit
abbrev nilF : FV := .v (.slice none 0 0)
def bRow (h : HM) (op : Rat → Rat → Rat) (t : Nat) : List Rat := (List.range h.n).map (h.gB op t)
def bTo (h : HM) (op : Rat → Rat → Rat) (t i : Nat) : List FV := (List.range i).map fun k => fr (h.gB op t k)
def bF (h : HM) (op : Rat → Rat → Rat) (lo : Nat) : List FV := (List.range h.T).map fun j => if lo ≤ j then frs (bRow h op j) else nilF
def bR (h : HM) (op : Rat → Rat → Rat) : List (List Rat) := (List.range h.T).map (bRow h op)
section
variable {h : HM} {op : Rat → Rat → Rat} {t i lo : Nat}
theorem bF_len : (bF h op lo).length = h.T := by simp [bF]
theorem bTo_len : (bTo h op t i).length = i := by simp [bTo]
theorem bTo_next : bTo h op t i ++ [fr (h.gB op t i)] = bTo h op t (i + 1) := by simp [bTo, List.range_succ]
theorem bTo_all : bTo h op t h.n = (bRow h op t).map fr := by simp [bTo, bRow]
theorem bRow_len : (bRow h op t).length = h.n := by simp [bRow]
theorem bRow_get (hi : i < h.n) : ((bRow h op t).map fr)[i]? = some (fr (h.gB op t i)) := by simp [bRow, hi]
theorem bF_get (ht : t < h.T) (hl : lo ≤ t) : ((bF h op lo).map AV.f)[t]? = some (.f (frs (bRow h op t))) := by simp [bF, ht, hl]
theorem bF_set (ht : t < h.T) : ((bF h op (t + 1)).map AV.f).set t (.f (frs (bRow h op t))) = (bF h op t).map .f := by
  rw [← List.map_set]
  congr 1
  apply List.ext_getElem?
  intro j
  by_cases e : j = t
  · subst e
    rw [List.getElem?_set_self (by rw [bF_len]; exact ht)]
    simp [bF, ht]
  · rw [List.getElem?_set_ne (Ne.symm e)]
    by_cases hj : j < h.T
    · have : (t + 1 ≤ j) = (t ≤ j) := propext ⟨fun h => by omega, fun h => by omega⟩
      simp [bF, hj, this]
    · rw [List.getElem?_eq_none (by rw [bF_len]; omega), List.getElem?_eq_none (by rw [bF_len]; omega)]
theorem bF_nil (ht : t < h.T) : (bF h op (t + 1)).map AV.f = ((bF h op (t + 1)).map AV.f).set t (.f nilF) := by
  rw [← List.map_set]
  congr 1
  apply List.ext_getElem?
  intro j
  by_cases e : j = t
  · subst e
    rw [List.getElem?_set_self (by rw [bF_len]; exact ht)]
    simp [bF, ht]
  · rw [List.getElem?_set_ne (Ne.symm e)]
theorem bF_top : List.replicate h.T (AV.f nilF) = (bF h op h.T).map .f := by
  apply List.ext_getElem?
  intro j
  by_cases hj : j < h.T
  · simp [bF, hj]
  · rw [List.getElem?_eq_none (by simp; omega), List.getElem?_eq_none (by simp [bF_len]; omega)]
theorem bF_all : bF h op 0 = (bR h op).map frs := by simp [bF, bR]
end
theorem bTo_zero {h : HM} {op : Rat → Rat → Rat} {t : Nat} : bTo h op t 0 = [] := rfl
attribute [go_sem] bTo_zero
theorem gB_next {h : HM} {op : Rat → Rat → Rat} {t i : Nat} (ht : t + 1 < h.T) : h.gB op t i = opF op (fun k => h.mv i k * h.sh k (h.s (t + 1)) * h.gB op (t + 1) k) h.n := by
  unfold HM.gB
  rw [show h.T - 1 - t = (h.T - 1 - (t + 1)) + 1 by omega]
  show opF _ _ _ = _
  rw [show h.T - 1 - (h.T - 1 - (t + 1)) = t + 1 by omega]
theorem gB_last {h : HM} {op : Rat → Rat → Rat} {t i : Nat} (ht : t + 1 = h.T) : h.gB op t i = 1 := by
  unfold HM.gB
  rw [show h.T - 1 - t = 0 by omega]
  rfl
set_option maxRecDepth 100000 in
set_option maxHeartbeats 8000000 in
theorem behind_w {k : Nat} {fs ms ss : List FV} {st : List Rat} {mv sh : List (List Rat)} {seen : List Int} (h : HOk k fs ms ss st mv sh seen) (h1 : 1 ≤ k) (hk : k ≤ 1000) (hs : ∀ x ∈ seen, -9223372036854775808 ≤ x ∧ x ≤ 9223372036854775807) {jj : FuncId} {op : Rat → Rat → Rat} (hj : Join jj op) :
    Good Tryd.prog 122 [hidV fs ms ss, ints seen, .fn jj [] []] (rowsF (bR (hm st mv sh seen) op)) := by
  have hn4 := h.n4
  have hn1 := h.n1
  have ht8 := h.t8
  obtain ⟨m, hm_⟩ : ∃ m, m = hm st mv sh seen := ⟨_, rfl⟩
  rw [← hm_]
  have hmn : m.n = st.length := by rw [hm_]; rfl
  have hmT : m.T = seen.length := by rw [hm_]; rfl
  have hrep : List.replicate seen.length (AV.f nilF) = (bF m op seen.length).map .f := by rw [← hmT]; exact bF_top
  have h00 : (seen.length : Int) - 1 = (seen.length : Int) - 1 - 0 := by omega
  refine good_of Tryd.func122 rfl (by kernel_rfl) fun X hO => ?_; rw [Tryd.ntmps122, Tryd.results122]; simp only [ast0, List.map_cons, List.map_nil, List.length_cons, List.length_nil, Nat.reduceAdd, Nat.reduceSub, List.replicate_succ, List.replicate_zero, List.cons_append, List.nil_append]
  repeat (first | (with_reducible first | refine W_seq fun K hK => ?_ | refine J_block ?_ | refine J_skip ?_ | refine J_exit ?_ | refine J_ret ?_ | refine J_region ?_ | refine J_orders (id := 16) [8] (.one 0 (.one 1 (.one 2 (.one 3 (.one 4 (.one 5 (.one 6 (.one 7 (.one 8 (.one 9 (.one 10 .leaf))))))))))) mixed (by kernel_rfl) ?_  | refine J_drawn mixed (by kernel_rfl) ?_ | refine aApp_sl ?_ | refine aApp_old ?_ | refine J_c ?_ | refine Jc_true ?_ | refine Jc_false ?_ | exact Frz.f _ | (refine Kont.go (by assumption) ?_) | (simp (config := { maxSteps := 3000000 }) (disch := omega) only [go_sem, Nat.reduceEqDiff, ↓reduceIte, Nat.reduceAdd, Nat.reduceLT, Nat.reduceLeDiff, Int.reduceLT, Int.reduceLE, Int.reduceEq, Int.reduceNe, Int.reduceAdd, Int.reduceSub, Int.reduceMul, Int.reduceNeg, Int.reduceToNat, List.length_map, hrep])) | refine call_f (of_good (by omega) (by omega)) rfl ?_ | refine callQ_f (of_good (by omega) (by omega)) rfl ?_ | refine call_f (mul_w (by assumption) (by assumption) (by omega) (by omega)) rfl ?_ | refine callQ_f (mul_w (by assumption) (by assumption) (by omega) (by omega)) rfl ?_ | refine And.intro (by omega) ?_ | refine And.intro (And.intro (by omega) (by omega)) ?_)
  refine W_loop [8, 9, 10, 11, 12, 19, 20, 21, 22, 23, 24, 25, 26, 27, 28, 29, 30, 31, 32, 33, 34, 35, 36, 37, 38, 39, 40, 41, 42, 43, 44, 45, 46, 47, 48, 49, 50, 51, 52, 53, 54, 55, 56, 57, 58, 59, 60, 61, 62, 63, 64, 65, 66, 67, 68, 69, 70, 71, 72, 73, 74, 75, 76, 77, 78, 79, 80, 81, 82, 83, 84] (fun x : Nat => [(8, .f (I ((seen.length : Int) - 1 - (x : Int))))]) (fun x : Nat => [some ⟨68, 3, [.f (hidV fs ms ss)]⟩, some ⟨49, 1, (bF m op (seen.length - x)).map .f⟩]) (fun x : Nat => x ≤ seen.length) (fun x : Nat => seen.length - x) (0) (Nat.zero_le _) (by refine weak_of ?_ ?_ <;> simp only [go_sem, Nat.reduceAdd, Nat.reduceLT, Nat.reduceEqDiff] <;> first | rfl | exact ⟨rfl, rfl⟩ | exact Or.inl rfl | exact ⟨Or.inl rfl, Or.inl rfl⟩ | trivial | assumption | (symm; assumption)) ?_
  rintro x hx
  simp only [go_sem, Nat.reduceAdd, Nat.reduceLT, Nat.reduceEqDiff]
  by_cases hlt : x < seen.length
  · obtain ⟨t, ht⟩ : ∃ t, t = seen.length - 1 - x := ⟨_, rfl⟩
    have hti : (seen.length : Int) - 1 - (x : Int) = (t : Int) := by omega
    have htl : t < seen.length := by omega
    have hlo : seen.length - x = t + 1 := by omega
    have htT : t < m.T := by omega
    rw [hlo]
    repeat (first | (with_reducible first | refine W_seq fun K hK => ?_ | refine J_block ?_ | refine J_skip ?_ | refine J_exit ?_ | refine J_ret ?_ | refine J_region ?_ | refine J_orders (id := 16) [8] (.one 0 (.one 1 (.one 2 (.one 3 (.one 4 (.one 5 (.one 6 (.one 7 (.one 8 (.one 9 (.one 10 .leaf))))))))))) mixed (by kernel_rfl) ?_  | refine J_drawn mixed (by kernel_rfl) ?_ | refine aApp_sl ?_ | refine aApp_old ?_ | refine J_c ?_ | refine Jc_true ?_ | refine Jc_false ?_ | exact Frz.f _ | (refine Kont.go (by assumption) ?_) | (simp (config := { maxSteps := 3000000 }) (disch := omega) only [go_sem, Nat.reduceEqDiff, ↓reduceIte, Nat.reduceAdd, Nat.reduceLT, Nat.reduceLeDiff, Int.reduceLT, Int.reduceLE, Int.reduceEq, Int.reduceNe, Int.reduceAdd, Int.reduceSub, Int.reduceMul, Int.reduceNeg, Int.reduceToNat, hti, h.f.ist.len])) | refine call_f (of_good (by omega) (by omega)) rfl ?_ | refine callQ_f (of_good (by omega) (by omega)) rfl ?_ | refine call_f (mul_w (by assumption) (by assumption) (by omega) (by omega)) rfl ?_ | refine callQ_f (mul_w (by assumption) (by assumption) (by omega) (by omega)) rfl ?_ | refine And.intro (by omega) ?_ | refine And.intro (And.intro (by omega) (by omega)) ?_)
    refine J_reserve ?_
    rw [bF_nil htT]
    have hbn := bRow_len (h := m) (op := op) (t := t)
    refine W_loop [9, 10, 11, 12, 26, 27, 28, 29, 30, 31, 32, 33, 34, 35, 36, 37, 38, 39, 40, 41, 42, 43, 44, 45, 46, 47, 48, 49, 50, 51, 52, 53, 54, 55, 56, 57, 58, 59, 60, 61, 62, 63, 64, 65, 66, 67, 68, 69, 70, 71, 72, 73, 74, 75, 76, 77, 78, 79, 80, 81, 82, 83, 84] (fun x : Nat => [(26, .f (I x))]) (fun x : Nat => [some ⟨68, 3, [.f (hidV fs ms ss)]⟩, some ⟨49, 1, ((bF m op (t + 1)).map .f).set t (sl 2 3 (bTo m op t x))⟩, ob 55 3 (bTo m op t x)]) (fun x : Nat => x ≤ st.length) (fun x : Nat => st.length - x) (0) (Nat.zero_le _) (by refine weak_of ?_ ?_ <;> simp only [go_sem, Nat.reduceAdd, Nat.reduceLT, Nat.reduceEqDiff] <;> first | rfl | exact ⟨rfl, rfl⟩ | exact Or.inl rfl | exact ⟨Or.inl rfl, Or.inl rfl⟩ | trivial | assumption | (symm; assumption)) ?_
    rintro i hi
    simp only [go_sem, Nat.reduceAdd, Nat.reduceLT, Nat.reduceEqDiff]
    repeat (first | (with_reducible first | refine W_seq fun K hK => ?_ | refine J_block ?_ | refine J_skip ?_ | refine J_exit ?_ | refine J_ret ?_ | refine J_region ?_ | refine J_orders (id := 16) [8] (.one 0 (.one 1 (.one 2 (.one 3 (.one 4 (.one 5 (.one 6 (.one 7 (.one 8 (.one 9 (.one 10 .leaf))))))))))) mixed (by kernel_rfl) ?_  | refine J_drawn mixed (by kernel_rfl) ?_ | refine aApp_sl ?_ | refine aApp_old ?_ | refine J_c ?_ | refine Jc_true ?_ | refine Jc_false ?_ | exact Frz.f _ | (refine Kont.go (by assumption) ?_) | (simp (config := { maxSteps := 3000000 }) (disch := omega) only [go_sem, Nat.reduceEqDiff, ↓reduceIte, Nat.reduceAdd, Nat.reduceLT, Nat.reduceLeDiff, Int.reduceLT, Int.reduceLE, Int.reduceEq, Int.reduceNe, Int.reduceAdd, Int.reduceSub, Int.reduceMul, Int.reduceNeg, Int.reduceToNat])) | refine call_f (of_good (by omega) (by omega)) rfl ?_ | refine callQ_f (of_good (by omega) (by omega)) rfl ?_ | refine call_f (mul_w (by assumption) (by assumption) (by omega) (by omega)) rfl ?_ | refine callQ_f (mul_w (by assumption) (by assumption) (by omega) (by omega)) rfl ?_ | refine And.intro (by omega) ?_ | refine And.intro (And.intro (by omega) (by omega)) ?_)
    refine Jc_if (fun hil => ?_) (fun hil => ?_) <;> try simp only [decide_eq_true_eq, decide_eq_false_iff_not, Bool.not_eq_true', Bool.not_eq_false', Bool.not_true, Bool.not_false, Int.ofNat_lt, Int.ofNat_le, Int.natCast_inj, Classical.not_not] at hil
    · have hbl := bTo_len (h := m) (op := op) (t := t) (i := i)
      have hnx := bTo_next (h := m) (op := op) (t := t) (i := i)
      have hgt : ∀ y, (((bF m op (t + 1)).map AV.f).set t y)[t]? = some y := fun y => List.getElem?_set_self (by rw [List.length_map, bF_len]; exact htT)
      have hne1 : bTo m op t (i + 1) ≠ [] := fun e => by have := congrArg List.length e; rw [bTo_len] at this; simp at this
      have hsl1 : sl 5 3 (bTo m op t (i + 1)) = .own 5 3 0 (i + 1) := by rw [sl_pos hne1, bTo_len]
      have hob1 : ob 55 3 (bTo m op t (i + 1)) = some ⟨55, 3, (bTo m op t (i + 1)).map .f⟩ := ob_pos hne1
      have htk : ((bTo m op t i).map AV.f).take i ++ [AV.f (fr (m.gB op t i))] = (bTo m op t (i + 1)).map AV.f := by rw [List.take_of_length_le (by rw [List.length_map, hbl]; omega), ← hnx, List.map_append]; rfl
      by_cases ht1 : t + 1 < seen.length
      · have ht1' : (t : Int) + 1 < (seen.length : Int) := by omega
        have ht1n : ((t : Int) + 1).toNat = t + 1 := by omega
        have hg1 : ∀ y, (((bF m op (t + 1)).map AV.f).set t y)[t + 1]? = some (.f (frs (bRow m op (t + 1)))) := fun y => by
          rw [List.getElem?_set_ne (by omega)]; exact bF_get (by omega) (by omega)
        have hb1 := bRow_len (h := m) (op := op) (t := t + 1)
        repeat (first | (with_reducible first | refine W_seq fun K hK => ?_ | refine J_block ?_ | refine J_skip ?_ | refine J_exit ?_ | refine J_ret ?_ | refine J_region ?_ | refine J_orders (id := 16) [8] (.one 0 (.one 1 (.one 2 (.one 3 (.one 4 (.one 5 (.one 6 (.one 7 (.one 8 (.one 9 (.one 10 .leaf))))))))))) mixed (by kernel_rfl) ?_  | refine J_drawn mixed (by kernel_rfl) ?_ | refine aApp_sl ?_ | refine aApp_old ?_ | refine J_c ?_ | refine Jc_true ?_ | refine Jc_false ?_ | exact Frz.f _ | (refine Kont.go (by assumption) ?_) | (simp (config := { maxSteps := 3000000 }) (disch := omega) only [go_sem, Nat.reduceEqDiff, ↓reduceIte, Nat.reduceAdd, Nat.reduceLT, Nat.reduceLeDiff, Int.reduceLT, Int.reduceLE, Int.reduceEq, Int.reduceNe, Int.reduceAdd, Int.reduceSub, Int.reduceMul, Int.reduceNeg, Int.reduceToNat, hti, List.length_map, ht1', ht1n, hg1, hb1, hmn])) | refine call_f (of_good (by omega) (by omega)) rfl ?_ | refine callQ_f (of_good (by omega) (by omega)) rfl ?_ | refine call_f (mul_w (by assumption) (by assumption) (by omega) (by omega)) rfl ?_ | refine callQ_f (mul_w (by assumption) (by assumption) (by omega) (by omega)) rfl ?_ | refine And.intro (by omega) ?_ | refine And.intro (And.intro (by omega) (by omega)) ?_)
        have z0 : fr ((0 : Int) : Rat) = fr (opF op (fun k => m.mv i k * m.sh k (m.s (t + 1)) * m.gB op (t + 1) k) 0) := rfl
        refine W_loop [11, 12, 42, 43, 44, 45, 46, 47, 48, 49, 50, 51, 52, 53, 54, 55, 56, 57, 58, 59, 60, 61, 62, 63, 64, 65, 66, 67, 68, 69, 70, 71, 72, 73] (fun x : Nat => [(42, .f (I x))]) (fun x : Nat => [some ⟨68, 3, [.f (hidV fs ms ss)]⟩, some ⟨49, 1, ((bF m op (t + 1)).map .f).set t (sl 2 3 (bTo m op t i))⟩, ob 55 3 (bTo m op t i), oF (fr (opF op (fun k => m.mv i k * m.sh k (m.s (t + 1)) * m.gB op (t + 1) k) x))]) (fun x : Nat => x ≤ st.length) (fun x : Nat => st.length - x) (0) (Nat.zero_le _) (by refine weak_of ?_ ?_ <;> simp only [go_sem, Nat.reduceAdd, Nat.reduceLT, Nat.reduceEqDiff] <;> first | rfl | exact ⟨rfl, rfl⟩ | exact Or.inl rfl | exact ⟨Or.inl rfl, Or.inl rfl⟩ | trivial | assumption | (symm; assumption)) ?_
        rintro q hq
        simp only [go_sem, Nat.reduceAdd, Nat.reduceLT, Nat.reduceEqDiff]
        repeat (first | (with_reducible first | refine W_seq fun K hK => ?_ | refine J_block ?_ | refine J_skip ?_ | refine J_exit ?_ | refine J_ret ?_ | refine J_region ?_ | refine J_orders (id := 16) [8] (.one 0 (.one 1 (.one 2 (.one 3 (.one 4 (.one 5 (.one 6 (.one 7 (.one 8 (.one 9 (.one 10 .leaf))))))))))) mixed (by kernel_rfl) ?_  | refine J_drawn mixed (by kernel_rfl) ?_ | refine aApp_sl ?_ | refine aApp_old ?_ | refine J_c ?_ | refine Jc_true ?_ | refine Jc_false ?_ | exact Frz.f _ | (refine Kont.go (by assumption) ?_) | (simp (config := { maxSteps := 3000000 }) (disch := omega) only [go_sem, Nat.reduceEqDiff, ↓reduceIte, Nat.reduceAdd, Nat.reduceLT, Nat.reduceLeDiff, Int.reduceLT, Int.reduceLE, Int.reduceEq, Int.reduceNe, Int.reduceAdd, Int.reduceSub, Int.reduceMul, Int.reduceNeg, Int.reduceToNat])) | refine call_f (of_good (by omega) (by omega)) rfl ?_ | refine callQ_f (of_good (by omega) (by omega)) rfl ?_ | refine call_f (mul_w (by assumption) (by assumption) (by omega) (by omega)) rfl ?_ | refine callQ_f (mul_w (by assumption) (by assumption) (by omega) (by omega)) rfl ?_ | refine And.intro (by omega) ?_ | refine And.intro (And.intro (by omega) (by omega)) ?_)
        refine Jc_if (fun hql => ?_) (fun hql => ?_) <;> try simp only [decide_eq_true_eq, decide_eq_false_iff_not, Bool.not_eq_true', Bool.not_eq_false', Bool.not_true, Bool.not_false, Int.ofNat_lt, Int.ofNat_le, Int.natCast_inj, Classical.not_not] at hql
        · have hse1 := h.se (t + 1) ht1
          have hsb1 := hs _ (List.getElem_mem ht1)
          obtain ⟨xs2, g2, n2, d2, y2, x2, f2⟩ := h.s3 hql ht1
          obtain ⟨xs3, g3, n3, d3, y3, x3, f3⟩ := h.m3 hil hql
          rw [lget_lt seen 0 ht1] at x2 f2 hse1
          have es : at2 sh q seen[t + 1].toNat = m.sh q (m.s (t + 1)) := by rw [hm_]; show _ = at2 sh q (seen.getD (t + 1) 0).toNat; rw [lget_lt seen 0 ht1]
          have em : at2 mv i q = m.mv i q := by rw [hm_]; rfl
          rw [es] at f2
          rw [em] at f3
          have ff : ∀ q', q' < st.length → Fz (m.gB op (t + 1) q') (szH k (m.T - 1 - (t + 1))) := fun q' hq' => by
            have := h.fU h1 hj (u := m.T - 1 - (t + 1)) (by omega) hq'
            rw [← hm_] at this; exact this
          have sa := szH_le (k := k) (t := m.T - 1 - (t + 1)) hk (by omega)
          have cb := IsFr.c (ff q hql)
          have cm := IsFr.c ((f3.of3 h1).mul (f2.of3 h1))
          have fo := opF_fz hj (f := fun k => m.mv i k * m.sh k (m.s (t + 1)) * m.gB op (t + 1) k) (n := q) (s := k + k + szH k (m.T - 1 - (t + 1))) fun q' hq' => by
            have a1 := h.hM h1 (i := i) (j := q') hil (by omega)
            have a2 := h.hS h1 (i := q') (t := t + 1) (by omega) ht1
            rw [← hm_] at a1 a2
            exact (a1.mul a2).mul (ff q' (by omega))
          have so := Nat.mul_le_mul (show q ≤ 4 by omega) (show k + k + szH k (m.T - 1 - (t + 1)) + 1 ≤ 400002001 by omega)
          have fm := ((f3.of3 h1).mul (f2.of3 h1)).mul (ff q hql)
          have l2 := bRow_get (h := m) (op := op) (t := t + 1) (i := q) (by omega)
          repeat (first | (with_reducible first | refine W_seq fun K hK => ?_ | refine J_block ?_ | refine J_skip ?_ | refine J_exit ?_ | refine J_ret ?_ | refine J_region ?_ | refine J_orders (id := 16) [8] (.one 0 (.one 1 (.one 2 (.one 3 (.one 4 (.one 5 (.one 6 (.one 7 (.one 8 (.one 9 (.one 10 .leaf))))))))))) mixed (by kernel_rfl) ?_  | refine J_drawn mixed (by kernel_rfl) ?_ | refine aApp_sl ?_ | refine aApp_old ?_ | refine J_c ?_ | refine Jc_true ?_ | refine Jc_false ?_ | exact Frz.f _ | (refine Kont.go (by assumption) ?_) | (simp (config := { maxSteps := 3000000 }) (disch := omega) only [go_sem, Nat.reduceEqDiff, ↓reduceIte, Nat.reduceAdd, Nat.reduceLT, Nat.reduceLeDiff, Int.reduceLT, Int.reduceLE, Int.reduceEq, Int.reduceNe, Int.reduceAdd, Int.reduceSub, Int.reduceMul, Int.reduceNeg, Int.reduceToNat, List.length_map, l2, bRow_len, hmn, x2, y2, x3, y3, ht1n, map_get I seen ht1])) | refine call_f (of_good (by omega) (by omega)) rfl ?_ | refine callQ_f (of_good (by omega) (by omega)) rfl ?_ | refine call_f (mul_w (by assumption) (by assumption) (by omega) (by omega)) rfl ?_ | refine callQ_f (mul_w (by assumption) (by assumption) (by omega) (by omega)) rfl ?_ | refine And.intro (by omega) ?_ | refine And.intro (And.intro (by omega) (by omega)) ?_)
          refine callQ_f (hj.good fo fm (by omega) (by omega)) rfl ?_
          repeat (first | (with_reducible first | refine W_seq fun K hK => ?_ | refine J_block ?_ | refine J_skip ?_ | refine J_exit ?_ | refine J_ret ?_ | refine J_region ?_ | refine J_orders (id := 16) [8] (.one 0 (.one 1 (.one 2 (.one 3 (.one 4 (.one 5 (.one 6 (.one 7 (.one 8 (.one 9 (.one 10 .leaf))))))))))) mixed (by kernel_rfl) ?_  | refine J_drawn mixed (by kernel_rfl) ?_ | refine aApp_sl ?_ | refine aApp_old ?_ | refine J_c ?_ | refine Jc_true ?_ | refine Jc_false ?_ | exact Frz.f _ | (refine Kont.go (by assumption) ?_) | (simp (config := { maxSteps := 3000000 }) (disch := omega) only [go_sem, Nat.reduceEqDiff, ↓reduceIte, Nat.reduceAdd, Nat.reduceLT, Nat.reduceLeDiff, Int.reduceLT, Int.reduceLE, Int.reduceEq, Int.reduceNe, Int.reduceAdd, Int.reduceSub, Int.reduceMul, Int.reduceNeg, Int.reduceToNat, List.length_map, opF_succ])) | refine call_f (of_good (by omega) (by omega)) rfl ?_ | refine callQ_f (of_good (by omega) (by omega)) rfl ?_ | refine call_f (mul_w (by assumption) (by assumption) (by omega) (by omega)) rfl ?_ | refine callQ_f (mul_w (by assumption) (by assumption) (by omega) (by omega)) rfl ?_ | refine And.intro (by omega) ?_ | refine And.intro (And.intro (by omega) (by omega)) ?_)
          refine ⟨q + 1, by omega, by omega, weak_of ?_ ?_⟩ <;> (try simp only [go_sem, Nat.reduceAdd, Nat.reduceLT, Nat.reduceEqDiff]) <;> (try first | done | omega | rfl | exact ⟨rfl, rfl⟩ | trivial)
        · have he : q = st.length := by omega
          subst he
          have e2 : opF op (fun k => m.mv i k * m.sh k (m.s (t + 1)) * m.gB op (t + 1) k) st.length = m.gB op t i := by rw [gB_next (by omega), hmn]
          have e2' : fr (opF op (fun k => m.mv i k * m.sh k (m.s (t + 1)) * m.gB op (t + 1) k) st.length) = fr (m.gB op t i) := by rw [e2]
          by_cases hi0 : i = 0
          · subst hi0
            repeat (first | (with_reducible first | refine W_seq fun K hK => ?_ | refine J_block ?_ | refine J_skip ?_ | refine J_exit ?_ | refine J_ret ?_ | refine J_region ?_ | refine J_orders (id := 16) [8] (.one 0 (.one 1 (.one 2 (.one 3 (.one 4 (.one 5 (.one 6 (.one 7 (.one 8 (.one 9 (.one 10 .leaf))))))))))) mixed (by kernel_rfl) ?_  | refine J_drawn mixed (by kernel_rfl) ?_ | refine aApp_sl ?_ | refine aApp_old ?_ | refine J_c ?_ | refine Jc_true ?_ | refine Jc_false ?_ | exact Frz.f _ | (refine Kont.go (by assumption) ?_) | (simp (config := { maxSteps := 3000000 }) (disch := omega) only [go_sem, Nat.reduceEqDiff, ↓reduceIte, Nat.reduceAdd, Nat.reduceLT, Nat.reduceLeDiff, Int.reduceLT, Int.reduceLE, Int.reduceEq, Int.reduceNe, Int.reduceAdd, Int.reduceSub, Int.reduceMul, Int.reduceNeg, Int.reduceToNat, e2', hgt, bTo_zero, sl_nil, ob_nil, List.set_set])) | refine call_f (of_good (by omega) (by omega)) rfl ?_ | refine callQ_f (of_good (by omega) (by omega)) rfl ?_ | refine call_f (mul_w (by assumption) (by assumption) (by omega) (by omega)) rfl ?_ | refine callQ_f (mul_w (by assumption) (by assumption) (by omega) (by omega)) rfl ?_ | refine And.intro (by omega) ?_ | refine And.intro (And.intro (by omega) (by omega)) ?_)
            refine ⟨1, by omega, by omega, weak_ren [0, 1, 5] ⟨by decide, by first | decide | (simp; done)⟩ ?_ ?_⟩ <;> (try simp only [go_sem, Nat.reduceAdd, Nat.reduceLT, Nat.reduceEqDiff, hsl1, hob1]) <;> (try first | done | omega | rfl | exact ⟨rfl, rfl⟩ | trivial)
          · have hne : bTo m op t i ≠ [] := fun e => by rw [e] at hbl; simp at hbl; omega
            have hsl : sl 2 3 (bTo m op t i) = .own 2 3 0 i := by rw [sl_pos hne, hbl]
            have hob : ob 55 3 (bTo m op t i) = some ⟨55, 3, (bTo m op t i).map .f⟩ := ob_pos hne
            repeat (first | (with_reducible first | refine W_seq fun K hK => ?_ | refine J_block ?_ | refine J_skip ?_ | refine J_exit ?_ | refine J_ret ?_ | refine J_region ?_ | refine J_orders (id := 16) [8] (.one 0 (.one 1 (.one 2 (.one 3 (.one 4 (.one 5 (.one 6 (.one 7 (.one 8 (.one 9 (.one 10 .leaf))))))))))) mixed (by kernel_rfl) ?_  | refine J_drawn mixed (by kernel_rfl) ?_ | refine aApp_sl ?_ | refine aApp_old ?_ | refine J_c ?_ | refine Jc_true ?_ | refine Jc_false ?_ | exact Frz.f _ | (refine Kont.go (by assumption) ?_) | (simp (config := { maxSteps := 3000000 }) (disch := omega) only [go_sem, Nat.reduceEqDiff, ↓reduceIte, Nat.reduceAdd, Nat.reduceLT, Nat.reduceLeDiff, Int.reduceLT, Int.reduceLE, Int.reduceEq, Int.reduceNe, Int.reduceAdd, Int.reduceSub, Int.reduceMul, Int.reduceNeg, Int.reduceToNat, e2', hgt, hsl, hob, List.set_set, hbl, htk])) | refine call_f (of_good (by omega) (by omega)) rfl ?_ | refine callQ_f (of_good (by omega) (by omega)) rfl ?_ | refine call_f (mul_w (by assumption) (by assumption) (by omega) (by omega)) rfl ?_ | refine callQ_f (mul_w (by assumption) (by assumption) (by omega) (by omega)) rfl ?_ | refine And.intro (by omega) ?_ | refine And.intro (And.intro (by omega) (by omega)) ?_)
            refine ⟨i + 1, by omega, by omega, weak_ren [0, 1, 5] ⟨by decide, by first | decide | (simp; done)⟩ ?_ ?_⟩ <;> (try simp only [go_sem, Nat.reduceAdd, Nat.reduceLT, Nat.reduceEqDiff, hsl1, hob1]) <;> (try first | done | omega | rfl | exact ⟨rfl, rfl⟩ | trivial)
      · have ht1' : ¬ (t : Int) + 1 < (seen.length : Int) := by omega
        have e2' : fr ((1 : Int) : Rat) = fr (m.gB op t i) := by rw [gB_last (by omega)]; rfl
        by_cases hi0 : i = 0
        · subst hi0
          repeat (first | (with_reducible first | refine W_seq fun K hK => ?_ | refine J_block ?_ | refine J_skip ?_ | refine J_exit ?_ | refine J_ret ?_ | refine J_region ?_ | refine J_orders (id := 16) [8] (.one 0 (.one 1 (.one 2 (.one 3 (.one 4 (.one 5 (.one 6 (.one 7 (.one 8 (.one 9 (.one 10 .leaf))))))))))) mixed (by kernel_rfl) ?_  | refine J_drawn mixed (by kernel_rfl) ?_ | refine aApp_sl ?_ | refine aApp_old ?_ | refine J_c ?_ | refine Jc_true ?_ | refine Jc_false ?_ | exact Frz.f _ | (refine Kont.go (by assumption) ?_) | (simp (config := { maxSteps := 3000000 }) (disch := omega) only [go_sem, Nat.reduceEqDiff, ↓reduceIte, Nat.reduceAdd, Nat.reduceLT, Nat.reduceLeDiff, Int.reduceLT, Int.reduceLE, Int.reduceEq, Int.reduceNe, Int.reduceAdd, Int.reduceSub, Int.reduceMul, Int.reduceNeg, Int.reduceToNat, hti, List.length_map, ht1', e2', hgt, bTo_zero, sl_nil, ob_nil, List.set_set])) | refine call_f (of_good (by omega) (by omega)) rfl ?_ | refine callQ_f (of_good (by omega) (by omega)) rfl ?_ | refine call_f (mul_w (by assumption) (by assumption) (by omega) (by omega)) rfl ?_ | refine callQ_f (mul_w (by assumption) (by assumption) (by omega) (by omega)) rfl ?_ | refine And.intro (by omega) ?_ | refine And.intro (And.intro (by omega) (by omega)) ?_)
          refine ⟨1, by omega, by omega, weak_ren [0, 1, 5] ⟨by decide, by first | decide | (simp; done)⟩ ?_ ?_⟩ <;> (try simp only [go_sem, Nat.reduceAdd, Nat.reduceLT, Nat.reduceEqDiff, hsl1, hob1]) <;> (try first | done | omega | rfl | exact ⟨rfl, rfl⟩ | trivial)
        · have hne : bTo m op t i ≠ [] := fun e => by rw [e] at hbl; simp at hbl; omega
          have hsl : sl 2 3 (bTo m op t i) = .own 2 3 0 i := by rw [sl_pos hne, hbl]
          have hob : ob 55 3 (bTo m op t i) = some ⟨55, 3, (bTo m op t i).map .f⟩ := ob_pos hne
          repeat (first | (with_reducible first | refine W_seq fun K hK => ?_ | refine J_block ?_ | refine J_skip ?_ | refine J_exit ?_ | refine J_ret ?_ | refine J_region ?_ | refine J_orders (id := 16) [8] (.one 0 (.one 1 (.one 2 (.one 3 (.one 4 (.one 5 (.one 6 (.one 7 (.one 8 (.one 9 (.one 10 .leaf))))))))))) mixed (by kernel_rfl) ?_  | refine J_drawn mixed (by kernel_rfl) ?_ | refine aApp_sl ?_ | refine aApp_old ?_ | refine J_c ?_ | refine Jc_true ?_ | refine Jc_false ?_ | exact Frz.f _ | (refine Kont.go (by assumption) ?_) | (simp (config := { maxSteps := 3000000 }) (disch := omega) only [go_sem, Nat.reduceEqDiff, ↓reduceIte, Nat.reduceAdd, Nat.reduceLT, Nat.reduceLeDiff, Int.reduceLT, Int.reduceLE, Int.reduceEq, Int.reduceNe, Int.reduceAdd, Int.reduceSub, Int.reduceMul, Int.reduceNeg, Int.reduceToNat, hti, List.length_map, ht1', e2', hgt, hsl, hob, List.set_set, hbl, htk])) | refine call_f (of_good (by omega) (by omega)) rfl ?_ | refine callQ_f (of_good (by omega) (by omega)) rfl ?_ | refine call_f (mul_w (by assumption) (by assumption) (by omega) (by omega)) rfl ?_ | refine callQ_f (mul_w (by assumption) (by assumption) (by omega) (by omega)) rfl ?_ | refine And.intro (by omega) ?_ | refine And.intro (And.intro (by omega) (by omega)) ?_)
          refine ⟨i + 1, by omega, by omega, weak_ren [0, 1, 5] ⟨by decide, by first | decide | (simp; done)⟩ ?_ ?_⟩ <;> (try simp only [go_sem, Nat.reduceAdd, Nat.reduceLT, Nat.reduceEqDiff, hsl1, hob1]) <;> (try first | done | omega | rfl | exact ⟨rfl, rfl⟩ | trivial)
    · have he : i = st.length := by omega
      subst he
      have hba : bTo m op t st.length = (bRow m op t).map fr := by rw [← hmn]; exact bTo_all
      have hne : (bRow m op t).map fr ≠ [] := fun e => by have := congrArg List.length e; rw [List.length_map, bRow_len, hmn] at this; have h0 : ([] : List FV).length = 0 := rfl; omega
      have hbs := bF_set (h := m) (op := op) htT
      have hso : sl 2 3 ((bRow m op t).map fr) = .own 2 3 0 st.length := by rw [sl_pos hne, List.length_map, bRow_len, hmn]
      have hoo : ob 55 3 ((bRow m op t).map fr) = some ⟨55, 3, ((bRow m op t).map fr).map .f⟩ := ob_pos hne
      have hfl : ((bRow m op t).map fr).length = st.length := by rw [List.length_map, bRow_len, hmn]
      repeat (first | (with_reducible first | refine W_seq fun K hK => ?_ | refine J_block ?_ | refine J_skip ?_ | refine J_exit ?_ | refine J_ret ?_ | ((fail_if_success refine J_region (id := 4) ?_); refine J_region ?_) | refine J_orders (id := 16) [8] (.one 0 (.one 1 (.one 2 (.one 3 (.one 4 (.one 5 (.one 6 (.one 7 (.one 8 (.one 9 (.one 10 .leaf))))))))))) mixed (by kernel_rfl) ?_  | refine J_drawn mixed (by kernel_rfl) ?_ | refine aApp_sl ?_ | refine aApp_old ?_ | refine J_c ?_ | refine Jc_true ?_ | refine Jc_false ?_ | exact Frz.f _ | (refine Kont.go (by assumption) ?_) | (simp (config := { maxSteps := 3000000 }) (disch := omega) only [go_sem, Nat.reduceEqDiff, ↓reduceIte, Nat.reduceAdd, Nat.reduceLT, Nat.reduceLeDiff, Int.reduceLT, Int.reduceLE, Int.reduceEq, Int.reduceNe, Int.reduceAdd, Int.reduceSub, Int.reduceMul, Int.reduceNeg, Int.reduceToNat, hba, hso, hoo])) | refine call_f (of_good (by omega) (by omega)) rfl ?_ | refine callQ_f (of_good (by omega) (by omega)) rfl ?_ | refine call_f (mul_w (by assumption) (by assumption) (by omega) (by omega)) rfl ?_ | refine callQ_f (mul_w (by assumption) (by assumption) (by omega) (by omega)) rfl ?_ | refine And.intro (by omega) ?_ | refine And.intro (And.intro (by omega) (by omega)) ?_)
      refine J_freezeA (r := 2) (sz := 3) (l := (bRow m op t).map fr) rfl ?_
      repeat (first | (with_reducible first | refine W_seq fun K hK => ?_ | refine J_block ?_ | refine J_skip ?_ | refine J_exit ?_ | refine J_ret ?_ | refine J_region ?_ | refine J_orders (id := 16) [8] (.one 0 (.one 1 (.one 2 (.one 3 (.one 4 (.one 5 (.one 6 (.one 7 (.one 8 (.one 9 (.one 10 .leaf))))))))))) mixed (by kernel_rfl) ?_  | refine J_drawn mixed (by kernel_rfl) ?_ | refine aApp_sl ?_ | refine aApp_old ?_ | refine J_c ?_ | refine Jc_true ?_ | refine Jc_false ?_ | exact Frz.f _ | (refine Kont.go (by assumption) ?_) | (simp (config := { maxSteps := 3000000 }) (disch := omega) only [go_sem, Nat.reduceEqDiff, ↓reduceIte, Nat.reduceAdd, Nat.reduceLT, Nat.reduceLeDiff, Int.reduceLT, Int.reduceLE, Int.reduceEq, Int.reduceNe, Int.reduceAdd, Int.reduceSub, Int.reduceMul, Int.reduceNeg, Int.reduceToNat, hti, hfl, hbs, false_and, and_self])) | refine call_f (of_good (by omega) (by omega)) rfl ?_ | refine callQ_f (of_good (by omega) (by omega)) rfl ?_ | refine call_f (mul_w (by assumption) (by assumption) (by omega) (by omega)) rfl ?_ | refine callQ_f (mul_w (by assumption) (by assumption) (by omega) (by omega)) rfl ?_ | refine And.intro (by omega) ?_ | refine And.intro (And.intro (by omega) (by omega)) ?_)
      have hn1 : (t : Int) - 1 = (seen.length : Int) - 1 - ((x + 1 : Nat) : Int) := by omega
      have hn2 : seen.length - (x + 1) = t := by omega
      refine ⟨x + 1, by omega, by omega, weak_of ?_ ?_⟩ <;> (try simp only [go_sem, Nat.reduceAdd, Nat.reduceLT, Nat.reduceEqDiff]) <;> (try first | done | omega | rfl | exact ⟨rfl, rfl⟩ | trivial)
      all_goals rw [hn2]
      all_goals exact ⟨rfl, rfl⟩
  · have he : x = seen.length := by omega
    subst he
    have hti : (seen.length : Int) - 1 - (seen.length : Int) = -1 := by omega
    have hz : seen.length - seen.length = 0 := by omega
    have ha : (bF m op 0).map AV.f = ((bR m op).map frs).map .f := by rw [bF_all]
    have hl : ((bR m op).map frs).length = seen.length := by simp [bR, hmT]
    repeat (first | (with_reducible first | refine W_seq fun K hK => ?_ | refine J_block ?_ | refine J_skip ?_ | refine J_exit ?_ | refine J_ret ?_ | refine J_region ?_ | refine J_orders (id := 16) [8] (.one 0 (.one 1 (.one 2 (.one 3 (.one 4 (.one 5 (.one 6 (.one 7 (.one 8 (.one 9 (.one 10 .leaf))))))))))) mixed (by kernel_rfl) ?_  | refine J_drawn mixed (by kernel_rfl) ?_ | refine aApp_sl ?_ | refine aApp_old ?_ | refine J_c ?_ | refine Jc_true ?_ | refine Jc_false ?_ | exact Frz.f _ | (refine Kont.go (by assumption) ?_) | (simp (config := { maxSteps := 3000000 }) (disch := omega) only [go_sem, Nat.reduceEqDiff, ↓reduceIte, Nat.reduceAdd, Nat.reduceLT, Nat.reduceLeDiff, Int.reduceLT, Int.reduceLE, Int.reduceEq, Int.reduceNe, Int.reduceAdd, Int.reduceSub, Int.reduceMul, Int.reduceNeg, Int.reduceToNat, hti, hz, ha])) | refine call_f (of_good (by omega) (by omega)) rfl ?_ | refine callQ_f (of_good (by omega) (by omega)) rfl ?_ | refine call_f (mul_w (by assumption) (by assumption) (by omega) (by omega)) rfl ?_ | refine callQ_f (mul_w (by assumption) (by assumption) (by omega) (by omega)) rfl ?_ | refine And.intro (by omega) ?_ | refine And.intro (And.intro (by omega) (by omega)) ?_)
    exact Frz.own0 rfl hl.symm
end Go.Proofs.YtabmgfchkcmcmaaDoor
