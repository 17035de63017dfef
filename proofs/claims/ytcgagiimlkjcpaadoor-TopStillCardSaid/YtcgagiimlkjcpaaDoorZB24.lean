/- How many steps it takes to come back, within a closed class. Plain Lean. Conditions: none. -/
import Derived.Test.YtcgagiimlkjcpaaDoorZB20
import Derived.Test.YtcgagiimlkjcpaaDoorZB21
import Derived.Test.YtcgagiimlkjcpaaDoorZBckW
import Derived.Test.YtcgagiimlkjcpaaDoorZB23
import Derived.Test.YtcgagiimlkjcpaaDoorZB12
import Derived.Test.YtcgagiimlkjcpaaDoorZB13
import Derived.Test.YtcgagiimlkjcpaaDoorZB08
import Derived.ChangeSame
import Derived.ProofKit
import Derived.OpenShut
import Derived.Deep.DeepHandedRow
import Derived.Lib.LaidTab
import GoSem.PinnedTables
set_option linter.unusedVariables false
set_option linter.unusedSimpArgs false
namespace Go.Proofs.YtcgagiimlkjcpaaDoor
open Go Go.RowKit
section
variable {m : List (List Rat)} {l : List Nat} {c : Nat}
theorem augB (hd : l.Nodup) (hc : c < l.length) {n k : Nat} (hn : n < l.length) (hk : k ≤ l.length) : augM ((List.range l.length).map (bRw m l (l.getD c 0))) ((List.range l.length).map fun _ => 1) n k = bckM l.length (inQ m l) c n k := by
  have hlen : ((List.range l.length).map (bRw m l (l.getD c 0))).length = l.length := by simp
  have hinj : ∀ a b, a < l.length → b < l.length → (l.getD a 0 = l.getD b 0) = (a = b) := fun a b ha hb => propext ⟨fun h => by
    rw [lget_lt l 0 ha, lget_lt l 0 hb] at h
    exact nodup_inj hd ha hb h, fun h => by rw [h]⟩
  unfold augM bckM
  rw [hlen]
  by_cases e : k = l.length
  · rw [if_pos e, if_pos e]
    have : ((List.range l.length).map fun _ => (1 : Rat))[n]? = some 1 := by simp [hn]
    rw [List.getD_eq_getElem?_getD, this]; rfl
  · rw [if_neg e, if_neg e]
    have hk' : k < l.length := by omega
    have e1 : ((List.range l.length).map (bRw m l (l.getD c 0)))[n]? = some (bRw m l (l.getD c 0) n) := by simp [hn]
    have e2 : (bRw m l (l.getD c 0) n)[k]? = some (bV m l (l.getD c 0) n k) := by simp [bRw, hk']
    unfold at2
    rw [List.getD_eq_getElem?_getD (l := (List.range l.length).map (bRw m l (l.getD c 0))), e1]
    show (bRw m l (l.getD c 0) n).getD k 0 = _
    rw [List.getD_eq_getElem?_getD, e2]
    show bV m l (l.getD c 0) n k = _
    unfold bV inQ
    simp only [hinj k c hk' hc, hinj n k hn hk']
theorem bck_x (h : Irr l.length (inQ m l)) (hd : l.Nodup) (hc : c < l.length) : ∃ x : Nat → Rat, bckR m l (l.getD c 0) = (List.range l.length).map x ∧ ∀ n, n < l.length → x n = 1 + sumF (fun k => inQ m l n k * offI c x k) l.length := by
  obtain ⟨M, hM⟩ : ∃ M, M = augM ((List.range l.length).map (bRw m l (l.getD c 0))) ((List.range l.length).map fun _ => 1) := ⟨_, rfl⟩
  have ent : ∀ i k, i < l.length → k ≤ l.length → M i k = bckM l.length (inQ m l) c i k := fun i k hi hk => hM ▸ augB hd hc hi hk
  have hom : ∀ y, Hom l.length M y → Hom l.length (bckM l.length (inQ m l) c) y := fun y hy i hi => by
    rw [← hy i hi]; exact sumF_congr fun k hk => by rw [ent i k hi (by omega)]
  obtain ⟨M', hM'⟩ := gs_some (M := M) fun y hy => bck_hom h hc (hom y hy)
  refine ⟨fun n => M' n l.length, ?_, fun n hn => ?_⟩
  · unfold bckR solR
    have hlen : ((List.range l.length).map (bRw m l (l.getD c 0))).length = l.length := by simp
    rw [hlen, ← hM, hM']
  · have := (gs_sol (x := fun i => M' i l.length) hM').2 (fun i _ => rfl) n hn
    rw [ent n _ hn (Nat.le_refl _), show bckM l.length (inQ m l) c n l.length = 1 by unfold bckM; rw [if_pos rfl]] at this
    have e : sumF (fun k => M n k * M' k l.length) l.length = sumF (fun k => bckM l.length (inQ m l) c n k * (fun n => M' n l.length) k) l.length := sumF_congr fun k hk => by rw [ent n k hn (by omega)]
    rw [e, bck_row hn] at this
    grind
theorem bck_spec {p : Nat → Rat} (h : Irr l.length (inQ m l)) (hd : l.Nodup) (hc : c < l.length) (hp : Stat l.length (inQ m l) p) (h1 : sumF p l.length = 1) :
    (bckR m l (l.getD c 0)).length = l.length ∧ p c * (bckR m l (l.getD c 0)).getD c 0 = 1 := by
  obtain ⟨x, hx, hs⟩ := bck_x h hd hc
  rw [hx]
  refine ⟨by simp, ?_⟩
  have : ((List.range l.length).map x).getD c 0 = x c := by simp [List.getD, hc]
  rw [this]
  exact kac h hc hp h1 hs
theorem bck_fz {b : Nat} {ys : List FV} {i : Nat} (hm : SqM b ys m) (h1 : 1 ≤ b) (hlm : ∀ s ∈ l, s < m.length) : Row (szG (b + 9) l.length) (bckR m l i) := by
  have hA := bV_fz (i := i) hm h1 hlm
  have hone : Fz (1 : Rat) (b + 9) := (Fz.int (n := 1) (by decide)).up (by omega)
  have hAl : ((List.range l.length).map (bRw m l i)).length = l.length := by simp
  have := solR_fz (A := (List.range l.length).map (bRw m l i)) (b := (List.range l.length).map fun _ => 1) (s := b + 9) (by omega) (fun r hr => by
    obtain ⟨a, _, rfl⟩ := List.mem_map.1 hr
    simp [bRw]) (by simp) (fun r hr => by
    obtain ⟨a, ha, rfl⟩ := List.mem_map.1 hr
    intro z hz
    obtain ⟨k, hk, rfl⟩ := List.mem_map.1 hz
    exact hA a k (List.mem_range.1 ha) (List.mem_range.1 hk)) (fun z hz => by
    obtain ⟨a, _, rfl⟩ := List.mem_map.1 hz
    exact hone)
  rwa [hAl] at this
end
theorem getD_map' {α β : Type} {f : α → β} {L : List α} {q : Nat} {d : β} (h : q < L.length) : (L.map f).getD q d = f L[q] := by
  rw [List.getD_eq_getElem?_getD, List.getElem?_map, List.getElem?_eq_getElem h]; rfl
theorem bck_ex {m : List (List Rat)} {n i : Nat} (hn : n = m.length) (hn6 : n ≤ 6) (hi : i < n) : ∃ q l c, BckOk m i q l ∧ c < l.length ∧ l.getD c 0 = i ∧ (∀ j, j < c → l.getD j 0 ≠ i) ∧ l = cls n (wsh (edg m) n) i ∧
    (shutL n (wsh (edg m) n) n).getD q false = clo n (wsh (edg m) n) i ∧ l.Nodup := by
  obtain ⟨R, hR⟩ : ∃ R, R = wsh (edg m) n := ⟨_, rfl⟩
  have hp : Pre n R := by rw [hR]; exact wsh_pre
  obtain ⟨r, hr, hrep, hrm⟩ := rep_ex hp hi
  obtain ⟨L, hL⟩ : ∃ L, L = (List.range n).filter (isRep n R) := ⟨_, rfl⟩
  have hLn : L.Nodup := by rw [hL]; exact List.Pairwise.filter _ List.nodup_range
  have hrL : r ∈ L := by rw [hL]; exact List.mem_filter.2 ⟨List.mem_range.2 hr, hrep⟩
  have hLp : ∀ s ∈ L, s < n ∧ isRep n R s = true := fun s hs => by rw [hL] at hs; exact ⟨List.mem_range.1 (List.mem_filter.1 hs).1, (List.mem_filter.1 hs).2⟩
  obtain ⟨q, hq, eq⟩ := List.getElem_of_mem hrL
  have hcls : cls n R r = cls n R i := cls_eq hp hi hrm
  have hC : ∀ j, (hj : j < L.length) → (repL n R n).getD j [] = cls n R L[j] := fun j hj => by unfold repL; rw [← hL]; exact getD_map' hj
  have hS : ∀ j, (hj : j < L.length) → (shutL n R n).getD j false = clo n R L[j] := fun j hj => by unfold shutL; rw [← hL]; exact getD_map' hj
  have hCl : (repL n R n).length = L.length := by unfold repL; rw [List.length_map, ← hL]
  have hSl : (shutL n R n).length = L.length := by unfold shutL; rw [List.length_map, ← hL]
  have hout : ∀ j, ¬ j < L.length → (repL n R n).getD j [] = [] := fun j hj => by rw [List.getD_eq_getElem?_getD, List.getElem?_eq_none (by omega)]; rfl
  have hLl : L.length ≤ n := nodup_le hLn fun s hs => (hLp s hs).1
  have hall : ∀ j, ∀ s ∈ (repL n R n).getD j [], s < n := fun j s hs => by
    by_cases hj : j < L.length
    · rw [hC j hj] at hs; exact (cls_mem.1 hs).1
    · rw [hout j hj] at hs; simp at hs
  obtain ⟨l, hl⟩ : ∃ l, l = cls n R i := ⟨_, rfl⟩
  have hil : i ∈ l := by rw [hl]; exact cls_self hp hi
  have hlnd : l.Nodup := by rw [hl]; exact cls_nodup
  obtain ⟨c, hc, ec⟩ := List.getElem_of_mem hil
  have hclo : clo n R L[q] = clo n R i := by
    rw [eq]
    have hir : i ∈ cls n R r := by rw [hcls]; exact cls_self hp hi
    cases h1 : clo n R r with
    | true => exact (clo_class hp hr hir h1).symm
    | false =>
      cases h2 : clo n R i with
      | false => rfl
      | true => have := clo_class hp hi hrm h2; rw [h1] at this; cases this
  refine ⟨q, l, c, ⟨by omega, ?_, ?_, hil, fun j hj hm => ?_, ?_, fun j => ?_, ?_, ?_⟩, hc, by rw [lget_lt l 0 hc, ec], fun j hj e => ?_, ?_, ?_, hlnd⟩
  · rw [← hn, ← hR, hCl]; exact hq
  · rw [← hn, ← hR, hC q hq, eq, hcls, hl]
  · rw [← hn, ← hR, hC j (by omega)] at hm
    have h1 := (hLp _ (List.getElem_mem (show j < L.length by omega)))
    have h2 : cls n R i = cls n R L[j] := cls_eq hp h1.1 hm
    have h3 : L[j] = r := rep_unique hp h1.1 (by rw [← h2]; exact hrm) h1.2 hrep
    have h4 := nodup_inj hLn (show j < L.length by omega) hq (h3.trans eq.symm)
    omega
  · rw [← hn, ← hR]; exact hall
  · rw [← hn, ← hR]
    refine Nat.le_trans (nodup_le (n := n) ?_ fun s hs => hall j s hs) hn6
    by_cases hj : j < L.length
    · rw [hC j hj]; exact cls_nodup
    · rw [hout j hj]; exact List.nodup_nil
  · rw [← hn, ← hR, hSl, hCl]
  · rw [← hn, ← hR, hCl]; omega
  · rw [lget_lt l 0 (by omega), ← ec] at e
    have := nodup_inj hlnd (by omega) hc e
    omega
  · rw [← hR]; exact hl
  · rw [← hR, hS q hq, hclo]
end Go.Proofs.YtcgagiimlkjcpaaDoor
set_option linter.unusedVariables false
set_option linter.unusedSimpArgs false
namespace Go.Proofs.YtcgagiimlkjcpaaDoor
open Go Go.RowKit
theorem Frs.take {k : Nat} {xs : List FV} {l : List Rat} (h : Frs k xs l) (n : Nat) : Frs k (xs.take n) (l.take n) := ⟨by simp [h.len], fun i q hq => by
  rw [List.getElem?_take] at hq ⊢
  split at hq
  · rename_i hi
    rw [if_pos hi]; exact h.get i q hq
  · cases hq⟩
end Go.Proofs.YtcgagiimlkjcpaaDoor
set_option linter.unusedVariables false
set_option linter.unusedSimpArgs false
namespace Go.Proofs.YtcgagiimlkjcpaaDoor
open Go Go.RowKit
abbrev qN (n : Nat) : Rat := ((n : Int) : Rat)
theorem qN_add (a b : Nat) : qN (a + b) = qN a + qN b := by unfold qN; rw [Int.natCast_add, Rat.intCast_add]
end Go.Proofs.YtcgagiimlkjcpaaDoor
set_option linter.unusedVariables false
set_option linter.unusedSimpArgs false
namespace Go.Proofs.YtcgagiimlkjcpaaDoor
open Go Go.RowKit
theorem qN_nonneg (n : Nat) : 0 ≤ qN n := by unfold qN; exact Rat.intCast_nonneg.2 (by omega)
theorem qN_pos {n : Nat} (h : 0 < n) : 0 < qN n := by unfold qN; exact Rat.intCast_pos.2 (by omega)
theorem qN_mk (a b : Nat) : qN a / qN b = mkRat (a : Int) b := by rw [Rat.mkRat_eq_div]; rfl
theorem sumTo_div (L : List Nat) (S : Rat) (i : Nat) (h : i ≤ L.length) : sumTo (L.map fun x : Nat => qN x / S) i = qN (L.take i).sum / S := by
  induction i with
  | zero => show 0 = _; rw [Rat.div_def]; simp [qN]
  | succ i ih =>
    show sumTo _ i + (L.map _).getD i 0 = _
    rw [ih (by omega), lget_lt _ 0 (by simp; omega), List.getElem_map, List.take_add_one, List.getElem?_eq_getElem (by omega), List.sum_append]
    simp only [Option.toList_some, List.sum_cons, List.sum_nil, Nat.add_zero]
    rw [qN_add, Rat.div_def, Rat.div_def, Rat.div_def, Rat.add_mul]
section
variable (w : List Int) (k n : Nat)
theorem rowOf_eq : rowOf w k n = (rowM w k n).map fun x : Nat => qN x / qN (rowS w k n) := rfl
theorem rowOf_nonneg : ∀ q ∈ rowOf w k n, 0 ≤ q := fun q hq => by
  obtain ⟨x, _, rfl⟩ := List.mem_map.1 hq
  exact Rat.mul_nonneg (qN_nonneg x) (Rat.le_of_lt (Rat.inv_pos.2 (qN_pos (rowS_pos w k n))))
theorem rowOf_sum (h : 1 ≤ n) : sumR (rowOf w k n) = 1 := by
  unfold sumR
  rw [rowOf_eq, sumTo_div _ _ _ (by simp), List.take_of_length_le (by simp), rowM_sum w k n h, Rat.div_def]
  exact Rat.mul_inv_cancel _ (fun e => by have := qN_pos (rowS_pos w k n); rw [e] at this; exact Rat.lt_irrefl this)
theorem rowOf_chances (h : 1 ≤ n) : chancesB (rowOf w k n) = true := decide_eq_true ⟨rowOf_nonneg w k n, rowOf_sum w k n h⟩
theorem rowOf_row (h : 1 ≤ n) (hn : n ≤ 1000) : Row 8 (rowOf w k n) := fun q hq => by
  obtain ⟨x, hx, rfl⟩ := List.mem_map.1 hq
  show Fz (qN x / qN (rowS w k n)) 8
  rw [qN_mk]
  have h1 := rowM_lt w k n x hx
  have h2 := rowS_le w k n h
  have e : (256 : Nat) ^ 8 = 18446744073709551616 := by decide
  exact Fz.mk (by rw [e]; omega) (by rw [e]; omega) (by omega)
end
end Go.Proofs.YtcgagiimlkjcpaaDoor
set_option linter.unusedVariables false
set_option linter.unusedSimpArgs false
namespace Go.Proofs.YtcgagiimlkjcpaaDoor
open Go Go.RowKit
def matX (w : List Int) (n i k : Nat) : Nat := if w = [] then 1 else pickN (w.getD ((i * n + k) % w.length) 0) 9 - 3
def matL (w : List Int) (n i m : Nat) : List Int := (List.range m).map fun k => ((matX w n i k : Nat) : Int)
def matR (w : List Int) (n m : Nat) : List (List Rat) := (List.range m).map fun i => rowOf (matL w n i n) 0 n
theorem matX_le (w : List Int) (n i k : Nat) : matX w n i k ≤ 5 := by
  unfold matX
  split
  · omega
  · have := pickN_lt (w.getD ((i * n + k) % w.length) 0) (n := 9) (by omega); omega
theorem matL_len (w : List Int) (n i m : Nat) : (matL w n i m).length = m := by simp [matL]
theorem matR_len (w : List Int) (n m : Nat) : (matR w n m).length = m := by simp [matR]
theorem matL_next (w : List Int) (n i m : Nat) : (matL w n i m).map I ++ [I (matX w n i m : Nat)] = (matL w n i (m + 1)).map I := by simp [matL, List.range_succ]
theorem matR_next (w : List Int) (n m : Nat) : (matR w n m).map frs ++ [frs (rowOf (matL w n m n) 0 n)] = (matR w n (m + 1)).map frs := by simp [matR, List.range_succ]
theorem matL_64 (w : List Int) (n i m : Nat) : ∀ x ∈ matL w n i m, -9223372036854775808 ≤ x ∧ x ≤ 9223372036854775807 := fun x hx => by
  obtain ⟨k, _, rfl⟩ := List.mem_map.1 hx
  have := matX_le w n i k
  omega
set_option maxRecDepth 100000 in
set_option maxHeartbeats 2000000 in
theorem matrixOf_w (w : List Int) (n : Nat) (hw : ∀ x ∈ w, -9223372036854775808 ≤ x ∧ x ≤ 9223372036854775807) (h1 : 1 ≤ n) (hn : n ≤ 1000) (hwl : w.length ≤ 140737488355328) : Good Tryd.prog 6 [ints w, I n] (rowsF (matR w n n)) := by
  refine good_of Tryd.func6 rfl (by kernel_rfl) fun X hO hrd => ?_; rw [Tryd.ntmps6, Tryd.results6]; simp only [ast0, List.map_cons, List.map_nil, List.length_cons, List.length_nil, Nat.reduceAdd, Nat.reduceSub, List.replicate_succ, List.replicate_zero, List.cons_append, List.nil_append]
  repeat (first | (with_reducible first | refine W_seq fun K hK => ?_ | refine J_block ?_ | refine J_skip ?_ | refine J_exit ?_ | refine J_ret ?_ | refine J_region ?_  | refine J_drawn mixed (by kernel_rfl) ?_ | refine aApp_sl ?_ | refine aApp_old ?_ | refine J_c ?_ | refine Jc_true ?_ | refine Jc_false ?_ | exact Frz.f _ | (refine Kont.go (by assumption) ?_) | (simp (config := { maxSteps := 3000000 }) (disch := omega) only [go_sem, Nat.reduceEqDiff, ↓reduceIte, Nat.reduceAdd, Nat.reduceLT, Nat.reduceLeDiff, Int.reduceLT, Int.reduceLE, Int.reduceEq, Int.reduceNe, Int.reduceAdd, Int.reduceSub, Int.reduceMul, Int.reduceNeg, Int.reduceToNat])) | refine call_f (pickI _ _ (by omega) (by omega) (by omega) (by omega)) rfl ?_ | refine callQ_f (pickI _ _ (by omega) (by omega) (by omega) (by omega)) rfl ?_ | refine And.intro (by omega) ?_ | refine And.intro (And.intro (by omega) (by omega)) ?_)
  refine J_reserve ?_
  refine W_loop [5, 6, 7, 8, 9, 10, 11, 12, 13, 14, 15, 16, 17, 18, 19, 20, 21, 22, 23, 24, 25, 26, 27, 28, 29, 30, 31, 32, 33, 34, 35, 36, 37, 38, 39, 40, 41, 42, 43, 44, 45, 46, 47, 48, 49] (fun x : Nat => [(6, .f (I x)), (5, sl 0 1 ((matR w n x).map frs))]) (fun x : Nat => [ob 27 1 ((matR w n x).map frs)]) (fun x : Nat => x ≤ n) (fun x : Nat => n - x) (0) (Nat.zero_le _) (by refine weak_of ?_ ?_ <;> simp (disch := omega) only [go_sem, Nat.reduceAdd, Nat.reduceLT, Nat.reduceEqDiff] <;> first | rfl | exact ⟨rfl, rfl⟩ | exact Or.inl rfl | exact ⟨Or.inl rfl, Or.inl rfl⟩ | trivial | assumption | omega | (symm; assumption) | ((repeat' apply And.intro) <;> first | rfl | omega | trivial | exact .inr ⟨rfl, rfl⟩ | exact .inr rfl | (right; symm; assumption) | (symm; assumption) | assumption)) ?_
  rintro i hi
  simp only [go_sem, Nat.reduceAdd, Nat.reduceLT, Nat.reduceEqDiff]
  repeat (first | (with_reducible first | refine W_seq fun K hK => ?_ | refine J_block ?_ | refine J_skip ?_ | refine J_exit ?_ | refine J_ret ?_ | refine J_region ?_  | refine J_drawn mixed (by kernel_rfl) ?_ | refine aApp_sl ?_ | refine aApp_old ?_ | refine J_c ?_ | refine Jc_true ?_ | refine Jc_false ?_ | exact Frz.f _ | (refine Kont.go (by assumption) ?_) | (simp (config := { maxSteps := 3000000 }) (disch := omega) only [go_sem, Nat.reduceEqDiff, ↓reduceIte, Nat.reduceAdd, Nat.reduceLT, Nat.reduceLeDiff, Int.reduceLT, Int.reduceLE, Int.reduceEq, Int.reduceNe, Int.reduceAdd, Int.reduceSub, Int.reduceMul, Int.reduceNeg, Int.reduceToNat])) | refine call_f (pickI _ _ (by omega) (by omega) (by omega) (by omega)) rfl ?_ | refine callQ_f (pickI _ _ (by omega) (by omega) (by omega) (by omega)) rfl ?_ | refine And.intro (by omega) ?_ | refine And.intro (And.intro (by omega) (by omega)) ?_)
  refine Jc_if (fun hlt => ?_) (fun hlt => ?_) <;> try simp only [decide_eq_true_eq, decide_eq_false_iff_not, Bool.not_eq_true', Bool.not_eq_false', Bool.not_true, Bool.not_false, Int.ofNat_lt, Int.ofNat_le, Int.natCast_inj, Classical.not_not] at hlt
  · have hnn : i * n ≤ 1000000 := Nat.mul_le_mul (show i ≤ 1000 by omega) hn
    have hcin : ((i : Int) * (n : Int)) = ((i * n : Nat) : Int) := (Int.natCast_mul i n).symm
    repeat (first | (with_reducible first | refine W_seq fun K hK => ?_ | refine J_block ?_ | refine J_skip ?_ | refine J_exit ?_ | refine J_ret ?_ | refine J_region ?_  | refine J_drawn mixed (by kernel_rfl) ?_ | refine aApp_sl ?_ | refine aApp_old ?_ | refine J_c ?_ | refine Jc_true ?_ | refine Jc_false ?_ | exact Frz.f _ | (refine Kont.go (by assumption) ?_) | (simp (config := { maxSteps := 3000000 }) (disch := omega) only [go_sem, Nat.reduceEqDiff, ↓reduceIte, Nat.reduceAdd, Nat.reduceLT, Nat.reduceLeDiff, Int.reduceLT, Int.reduceLE, Int.reduceEq, Int.reduceNe, Int.reduceAdd, Int.reduceSub, Int.reduceMul, Int.reduceNeg, Int.reduceToNat])) | refine call_f (pickI _ _ (by omega) (by omega) (by omega) (by omega)) rfl ?_ | refine callQ_f (pickI _ _ (by omega) (by omega) (by omega) (by omega)) rfl ?_ | refine And.intro (by omega) ?_ | refine And.intro (And.intro (by omega) (by omega)) ?_)
    refine J_reserve ?_
    refine W_loop [7, 8, 9, 16, 17, 18, 19, 20, 21, 22, 23, 24, 25, 26, 27, 28, 29, 30, 31, 32, 33, 34, 35, 36, 37, 38, 39, 40, 41, 42] (fun x : Nat => [(8, .f (I x)), (7, sl 1 1 ((matL w n i x).map I))]) (fun x : Nat => [ob 27 1 ((matR w n i).map frs), ob 3 1 ((matL w n i x).map I)]) (fun x : Nat => x ≤ n) (fun x : Nat => n - x) (0) (Nat.zero_le _) (by refine weak_of ?_ ?_ <;> simp (disch := omega) only [go_sem, Nat.reduceAdd, Nat.reduceLT, Nat.reduceEqDiff] <;> first | rfl | exact ⟨rfl, rfl⟩ | exact Or.inl rfl | exact ⟨Or.inl rfl, Or.inl rfl⟩ | trivial | assumption | omega | (symm; assumption) | ((repeat' apply And.intro) <;> first | rfl | omega | trivial | exact .inr ⟨rfl, rfl⟩ | exact .inr rfl | (right; symm; assumption) | (symm; assumption) | assumption)) ?_
    rintro k hk
    simp only [go_sem, Nat.reduceAdd, Nat.reduceLT, Nat.reduceEqDiff]
    repeat (first | (with_reducible first | refine W_seq fun K hK => ?_ | refine J_block ?_ | refine J_skip ?_ | refine J_exit ?_ | refine J_ret ?_ | refine J_region ?_  | refine J_drawn mixed (by kernel_rfl) ?_ | refine aApp_sl ?_ | refine aApp_old ?_ | refine J_c ?_ | refine Jc_true ?_ | refine Jc_false ?_ | exact Frz.f _ | (refine Kont.go (by assumption) ?_) | (simp (config := { maxSteps := 3000000 }) (disch := omega) only [go_sem, Nat.reduceEqDiff, ↓reduceIte, Nat.reduceAdd, Nat.reduceLT, Nat.reduceLeDiff, Int.reduceLT, Int.reduceLE, Int.reduceEq, Int.reduceNe, Int.reduceAdd, Int.reduceSub, Int.reduceMul, Int.reduceNeg, Int.reduceToNat])) | refine call_f (pickI _ _ (by omega) (by omega) (by omega) (by omega)) rfl ?_ | refine callQ_f (pickI _ _ (by omega) (by omega) (by omega) (by omega)) rfl ?_ | refine And.intro (by omega) ?_ | refine And.intro (And.intro (by omega) (by omega)) ?_)
    refine Jc_if (fun hlt2 => ?_) (fun hlt2 => ?_) <;> try simp only [decide_eq_true_eq, decide_eq_false_iff_not, Bool.not_eq_true', Bool.not_eq_false', Bool.not_true, Bool.not_false, Int.ofNat_lt, Int.ofNat_le, Int.natCast_inj, Classical.not_not] at hlt2
    · have hx5 := matX_le w n i k
      have hnx := matL_next w n i k
      by_cases hw0 : w = []
      · have hx1 : matX w n i k = 1 := by unfold matX; rw [if_pos hw0]
        rw [hx1] at hnx
        have hwl0 : w.length = 0 := by rw [hw0]; rfl
        have hnx1 : (matL w n i k).map I ++ [.v (.int .i64 1)] = (matL w n i (k + 1)).map I := hnx
        repeat (first | (with_reducible first | refine W_seq fun K hK => ?_ | refine J_block ?_ | refine J_skip ?_ | refine J_exit ?_ | refine J_ret ?_ | refine J_region ?_  | refine J_drawn mixed (by kernel_rfl) ?_ | refine aApp_sl ?_ | refine aApp_old ?_ | refine J_c ?_ | refine Jc_true ?_ | refine Jc_false ?_ | exact Frz.f _ | (refine Kont.go (by assumption) ?_) | (simp (config := { maxSteps := 3000000 }) (disch := omega) only [go_sem, Nat.reduceEqDiff, ↓reduceIte, Nat.reduceAdd, Nat.reduceLT, Nat.reduceLeDiff, Int.reduceLT, Int.reduceLE, Int.reduceEq, Int.reduceNe, Int.reduceAdd, Int.reduceSub, Int.reduceMul, Int.reduceNeg, Int.reduceToNat, List.length_map, matL_len, hwl0, hnx1])) | refine call_f (pickI _ _ (by omega) (by omega) (by omega) (by omega)) rfl ?_ | refine callQ_f (pickI _ _ (by omega) (by omega) (by omega) (by omega)) rfl ?_ | refine And.intro (by omega) ?_ | refine And.intro (And.intro (by omega) (by omega)) ?_)
        refine ⟨k + 1, by omega, by omega, weak_of ?_ ?_⟩ <;> (try simp (disch := omega) only [go_sem, Nat.reduceAdd, Nat.reduceLT, Nat.reduceEqDiff]) <;> (try first | done | omega | rfl | exact ⟨rfl, rfl⟩ | trivial)
      · have hwp : 0 < w.length := List.length_pos_iff.2 hw0
        have hm : (i * n + k) % w.length < w.length := Nat.mod_lt _ hwp
        have hx := i64_get hw hm
        have hp9 := pickN_lt w[(i * n + k) % w.length] (n := 9) (by omega)
        have hxx : matX w n i k = pickN w[(i * n + k) % w.length] 9 - 3 := by unfold matX; rw [if_neg hw0, lget_lt w 0 hm]
        have hmod : (((i * n : Nat) : Int) + (k : Int)).tmod (w.length : Int) = (((i * n + k) % w.length : Nat) : Int) := tmod_nat (by omega)
        by_cases hneg : pickN w[(i * n + k) % w.length] 9 < 3
        · have hlt3 : (pickN w[(i * n + k) % w.length] 9 : Int) < 3 := by omega
          have hlt0 : (pickN w[(i * n + k) % w.length] 9 : Int) - 3 < 0 := by omega
          have hx0 : matX w n i k = 0 := by omega
          rw [hx0] at hnx
          have hnx0 : (matL w n i k).map I ++ [.v (.int .i64 0)] = (matL w n i (k + 1)).map I := hnx
          repeat (first | (with_reducible first | refine W_seq fun K hK => ?_ | refine J_block ?_ | refine J_skip ?_ | refine J_exit ?_ | refine J_ret ?_ | refine J_region ?_  | refine J_drawn mixed (by kernel_rfl) ?_ | refine aApp_sl ?_ | refine aApp_old ?_ | refine J_c ?_ | refine Jc_true ?_ | refine Jc_false ?_ | exact Frz.f _ | (refine Kont.go (by assumption) ?_) | (simp (config := { maxSteps := 3000000 }) (disch := omega) only [go_sem, Nat.reduceEqDiff, ↓reduceIte, Nat.reduceAdd, Nat.reduceLT, Nat.reduceLeDiff, Int.reduceLT, Int.reduceLE, Int.reduceEq, Int.reduceNe, Int.reduceAdd, Int.reduceSub, Int.reduceMul, Int.reduceNeg, Int.reduceToNat, List.length_map, matL_len, hwp, hcin, hmod, map_get I w hm, hlt0, hnx0])) | refine call_f (pickI _ _ (by omega) (by omega) (by omega) (by omega)) rfl ?_ | refine callQ_f (pickI _ _ (by omega) (by omega) (by omega) (by omega)) rfl ?_ | refine And.intro (by omega) ?_ | refine And.intro (And.intro (by omega) (by omega)) ?_)
          refine ⟨k + 1, by omega, by omega, weak_of ?_ ?_⟩ <;> (try simp (disch := omega) only [go_sem, Nat.reduceAdd, Nat.reduceLT, Nat.reduceEqDiff]) <;> (try first | done | omega | rfl | exact ⟨rfl, rfl⟩ | trivial)
        · have hlt0 : ¬ ((matX w n i k : Nat) : Int) < 0 := by omega
          have hx3 : (pickN w[(i * n + k) % w.length] 9 : Int) - 3 = (matX w n i k : Nat) := by omega
          repeat (first | (with_reducible first | refine W_seq fun K hK => ?_ | refine J_block ?_ | refine J_skip ?_ | refine J_exit ?_ | refine J_ret ?_ | refine J_region ?_  | refine J_drawn mixed (by kernel_rfl) ?_ | refine aApp_sl ?_ | refine aApp_old ?_ | refine J_c ?_ | refine Jc_true ?_ | refine Jc_false ?_ | exact Frz.f _ | (refine Kont.go (by assumption) ?_) | (simp (config := { maxSteps := 3000000 }) (disch := omega) only [go_sem, Nat.reduceEqDiff, ↓reduceIte, Nat.reduceAdd, Nat.reduceLT, Nat.reduceLeDiff, Int.reduceLT, Int.reduceLE, Int.reduceEq, Int.reduceNe, Int.reduceAdd, Int.reduceSub, Int.reduceMul, Int.reduceNeg, Int.reduceToNat, List.length_map, matL_len, hwp, hcin, hmod, map_get I w hm, hlt0, hx3, hnx])) | refine call_f (pickI _ _ (by omega) (by omega) (by omega) (by omega)) rfl ?_ | refine callQ_f (pickI _ _ (by omega) (by omega) (by omega) (by omega)) rfl ?_ | refine And.intro (by omega) ?_ | refine And.intro (And.intro (by omega) (by omega)) ?_)
          refine ⟨k + 1, by omega, by omega, weak_of ?_ ?_⟩ <;> (try simp (disch := omega) only [go_sem, Nat.reduceAdd, Nat.reduceLT, Nat.reduceEqDiff]) <;> (try first | done | omega | rfl | exact ⟨rfl, rfl⟩ | trivial)
    · have he : k = n := by omega
      subst he
      refine J_freeze (j := 7) rfl rfl ?_
      repeat (first | (with_reducible first | refine W_seq fun K hK => ?_ | refine J_block ?_ | refine J_skip ?_ | refine J_exit ?_ | refine J_ret ?_ | refine J_region ?_  | refine J_drawn mixed (by kernel_rfl) ?_ | refine aApp_sl ?_ | refine aApp_old ?_ | refine J_c ?_ | refine Jc_true ?_ | refine Jc_false ?_ | exact Frz.f _ | (refine Kont.go (by assumption) ?_) | (simp (config := { maxSteps := 3000000 }) (disch := omega) only [go_sem, Nat.reduceEqDiff, ↓reduceIte, Nat.reduceAdd, Nat.reduceLT, Nat.reduceLeDiff, Int.reduceLT, Int.reduceLE, Int.reduceEq, Int.reduceNe, Int.reduceAdd, Int.reduceSub, Int.reduceMul, Int.reduceNeg, Int.reduceToNat])) | refine call_f (pickI _ _ (by omega) (by omega) (by omega) (by omega)) rfl ?_ | refine callQ_f (pickI _ _ (by omega) (by omega) (by omega) (by omega)) rfl ?_ | refine And.intro (by omega) ?_ | refine And.intro (And.intro (by omega) (by omega)) ?_)
      refine call_f (rowI (k' := 0) (n' := k) (by omega) rfl (matL_64 w k i k) (by omega) (by omega) (by omega) (by rw [matL_len]; omega)) rfl ?_
      repeat (first | (with_reducible first | refine W_seq fun K hK => ?_ | refine J_block ?_ | refine J_skip ?_ | refine J_exit ?_ | refine J_ret ?_ | refine J_region ?_  | refine J_drawn mixed (by kernel_rfl) ?_ | refine aApp_sl ?_ | refine aApp_old ?_ | refine J_c ?_ | refine Jc_true ?_ | refine Jc_false ?_ | exact Frz.f _ | (refine Kont.go (by assumption) ?_) | (simp (config := { maxSteps := 3000000 }) (disch := omega) only [go_sem, Nat.reduceEqDiff, ↓reduceIte, Nat.reduceAdd, Nat.reduceLT, Nat.reduceLeDiff, Int.reduceLT, Int.reduceLE, Int.reduceEq, Int.reduceNe, Int.reduceAdd, Int.reduceSub, Int.reduceMul, Int.reduceNeg, Int.reduceToNat, matR_next, List.length_map, matR_len])) | refine call_f (pickI _ _ (by omega) (by omega) (by omega) (by omega)) rfl ?_ | refine callQ_f (pickI _ _ (by omega) (by omega) (by omega) (by omega)) rfl ?_ | refine And.intro (by omega) ?_ | refine And.intro (And.intro (by omega) (by omega)) ?_)
      refine ⟨i + 1, by omega, by omega, weak_of ?_ ?_⟩ <;> (try simp (disch := omega) only [go_sem, Nat.reduceAdd, Nat.reduceLT, Nat.reduceEqDiff]) <;> (try first | done | omega | rfl | exact ⟨rfl, rfl⟩ | trivial)
  · have he : i = n := by omega
    subst he
    repeat (first | (with_reducible first | refine W_seq fun K hK => ?_ | refine J_block ?_ | refine J_skip ?_ | refine J_exit ?_ | refine J_ret ?_ | refine J_region ?_  | refine J_drawn mixed (by kernel_rfl) ?_ | refine aApp_sl ?_ | refine aApp_old ?_ | refine J_c ?_ | refine Jc_true ?_ | refine Jc_false ?_ | exact Frz.f _ | (refine Kont.go (by assumption) ?_) | (simp (config := { maxSteps := 3000000 }) (disch := omega) only [go_sem, Nat.reduceEqDiff, ↓reduceIte, Nat.reduceAdd, Nat.reduceLT, Nat.reduceLeDiff, Int.reduceLT, Int.reduceLE, Int.reduceEq, Int.reduceNe, Int.reduceAdd, Int.reduceSub, Int.reduceMul, Int.reduceNeg, Int.reduceToNat])) | refine call_f (pickI _ _ (by omega) (by omega) (by omega) (by omega)) rfl ?_ | refine callQ_f (pickI _ _ (by omega) (by omega) (by omega) (by omega)) rfl ?_ | refine And.intro (by omega) ?_ | refine And.intro (And.intro (by omega) (by omega)) ?_)
    exact Frz.sl rfl
section
variable {w : List Int} {n : Nat}
theorem matR_row : ∀ r ∈ matR w n n, r.length = n := fun r hr => by
  obtain ⟨i, _, rfl⟩ := List.mem_map.1 hr
  exact rowOf_len _ _ _
theorem matR_chances (h : 1 ≤ n) : ∀ r ∈ matR w n n, chancesB r = true := fun r hr => by
  obtain ⟨i, _, rfl⟩ := List.mem_map.1 hr
  exact rowOf_chances _ _ _ h
theorem matR_Row (h : 1 ≤ n) (hn : n ≤ 1000) : ∀ r ∈ matR w n n, Row 8 r := fun r hr => by
  obtain ⟨i, _, rfl⟩ := List.mem_map.1 hr
  exact rowOf_row _ _ _ h hn
theorem matR_chk (h : 1 ≤ n) (hn : n ≤ 6) : chkM (matR w n n) = 0 := by
  unfold chkM sqM
  rw [matR_len, if_neg (by omega), if_neg (fun hh => hh matR_row), if_neg (fun hh => hh (matR_chances h))]
end
end Go.Proofs.YtcgagiimlkjcpaaDoor
set_option linter.unusedVariables false
set_option linter.unusedSimpArgs false
namespace Go.Proofs.YtcgagiimlkjcpaaDoor
open Go Go.RowKit
set_option maxRecDepth 100000 in
theorem heavy_w (ls : List (List Int)) (hl : ls.length ≤ 1000) (hr : ∀ r ∈ ls, r.length ≤ 140737488355328) : Good Tryd.prog 4 [.fz 1 (ls.map ints)] (Bo (decide (512 < (ls.map List.length).sum))) := by
  have hs : ∀ i, i ≤ ls.length → ((ls.take i).map List.length).sum ≤ i * 140737488355328 := by
    intro i
    induction i with
    | zero => intro _; simp
    | succ i ih =>
      intro hi
      have h1 := ih (by omega)
      have h2 := hr _ (List.getElem_mem (show i < ls.length by omega))
      rw [List.take_add_one, List.getElem?_eq_getElem (by omega), List.map_append, List.sum_append]
      show _ + (ls[i].length + 0) ≤ _
      omega
  refine good_of Tryd.func4 rfl (by kernel_rfl) fun X hO hrd => ?_; rw [Tryd.ntmps4, Tryd.results4]; simp only [ast0, List.map_cons, List.map_nil, List.length_cons, List.length_nil, Nat.reduceAdd, Nat.reduceSub, List.replicate_succ, List.replicate_zero, List.cons_append, List.nil_append]
  repeat (first | (with_reducible first | refine W_seq fun K hK => ?_ | refine J_block ?_ | refine J_skip ?_ | refine J_exit ?_ | refine J_ret ?_ | refine J_region ?_  | refine J_drawn mixed (by kernel_rfl) ?_ | refine aApp_sl ?_ | refine aApp_old ?_ | refine J_c ?_ | refine Jc_true ?_ | refine Jc_false ?_ | exact Frz.f _ | (refine Kont.go (by assumption) ?_) | (simp (config := { maxSteps := 3000000 }) (disch := omega) only [go_sem, Nat.reduceEqDiff, ↓reduceIte, Nat.reduceAdd, Nat.reduceLT, Nat.reduceLeDiff, Int.reduceLT, Int.reduceLE, Int.reduceEq, Int.reduceNe, Int.reduceAdd, Int.reduceSub, Int.reduceMul, Int.reduceNeg, Int.reduceToNat, List.length_map])) | refine And.intro (by omega) ?_ | refine And.intro (And.intro (by omega) (by omega)) ?_)
  refine W_loop [3, 4, 5, 6, 7, 8, 9, 10, 11, 12, 13, 14, 15, 16, 17] (fun x : Nat => [(4, .f (I x)), (3, .f (I (((ls.take x).map List.length).sum : Nat)))]) (fun x : Nat => []) (fun x : Nat => x ≤ ls.length) (fun x : Nat => ls.length - x) (0) (Nat.zero_le _) (by refine weak_of ?_ ?_ <;> simp (disch := omega) only [go_sem, Nat.reduceAdd, Nat.reduceLT, Nat.reduceEqDiff] <;> first | rfl | exact ⟨rfl, rfl⟩ | exact Or.inl rfl | exact ⟨Or.inl rfl, Or.inl rfl⟩ | trivial | assumption | omega | (symm; assumption) | ((repeat' apply And.intro) <;> first | rfl | omega | trivial | exact .inr ⟨rfl, rfl⟩ | exact .inr rfl | (right; symm; assumption) | (symm; assumption) | assumption)) ?_
  rintro i hi
  simp only [go_sem, Nat.reduceAdd, Nat.reduceLT, Nat.reduceEqDiff]
  have hsi := hs i hi
  repeat (first | (with_reducible first | refine W_seq fun K hK => ?_ | refine J_block ?_ | refine J_skip ?_ | refine J_exit ?_ | refine J_ret ?_ | refine J_region ?_  | refine J_drawn mixed (by kernel_rfl) ?_ | refine aApp_sl ?_ | refine aApp_old ?_ | refine J_c ?_ | refine Jc_true ?_ | refine Jc_false ?_ | exact Frz.f _ | (refine Kont.go (by assumption) ?_) | (simp (config := { maxSteps := 3000000 }) (disch := omega) only [go_sem, Nat.reduceEqDiff, ↓reduceIte, Nat.reduceAdd, Nat.reduceLT, Nat.reduceLeDiff, Int.reduceLT, Int.reduceLE, Int.reduceEq, Int.reduceNe, Int.reduceAdd, Int.reduceSub, Int.reduceMul, Int.reduceNeg, Int.reduceToNat, List.length_map])) | refine And.intro (by omega) ?_ | refine And.intro (And.intro (by omega) (by omega)) ?_)
  refine Jc_if (fun hlt => ?_) (fun hlt => ?_) <;> try simp only [decide_eq_true_eq, decide_eq_false_iff_not, Bool.not_eq_true', Bool.not_eq_false', Bool.not_true, Bool.not_false, Int.ofNat_lt, Int.ofNat_le, Int.natCast_inj, Classical.not_not] at hlt
  · have hli := hr _ (List.getElem_mem hlt)
    have hnx : ((((ls.take i).map List.length).sum : Nat) : Int) + (ls[i].length : Int) = (((ls.take (i + 1)).map List.length).sum : Nat) := by
      rw [List.take_add_one, List.getElem?_eq_getElem hlt, List.map_append, List.sum_append]
      show _ = ((_ + (ls[i].length + 0) : Nat) : Int)
      omega
    repeat (first | (with_reducible first | refine W_seq fun K hK => ?_ | refine J_block ?_ | refine J_skip ?_ | refine J_exit ?_ | refine J_ret ?_ | refine J_region ?_  | refine J_drawn mixed (by kernel_rfl) ?_ | refine aApp_sl ?_ | refine aApp_old ?_ | refine J_c ?_ | refine Jc_true ?_ | refine Jc_false ?_ | exact Frz.f _ | (refine Kont.go (by assumption) ?_) | (simp (config := { maxSteps := 3000000 }) (disch := omega) only [go_sem, Nat.reduceEqDiff, ↓reduceIte, Nat.reduceAdd, Nat.reduceLT, Nat.reduceLeDiff, Int.reduceLT, Int.reduceLE, Int.reduceEq, Int.reduceNe, Int.reduceAdd, Int.reduceSub, Int.reduceMul, Int.reduceNeg, Int.reduceToNat, List.length_map, map_get ints ls hlt, hlt, hnx])) | refine And.intro (by omega) ?_ | refine And.intro (And.intro (by omega) (by omega)) ?_)
    refine ⟨i + 1, by omega, by omega, weak_of ?_ ?_⟩ <;> (try simp (disch := omega) only [go_sem, Nat.reduceAdd, Nat.reduceLT, Nat.reduceEqDiff]) <;> (try first | done | omega | rfl | exact ⟨rfl, rfl⟩ | trivial)
  · have he : ls.take i = ls := List.take_of_length_le (by omega)
    rw [he]
    repeat (first | (with_reducible first | refine W_seq fun K hK => ?_ | refine J_block ?_ | refine J_skip ?_ | refine J_exit ?_ | refine J_ret ?_ | refine J_region ?_  | refine J_drawn mixed (by kernel_rfl) ?_ | refine aApp_sl ?_ | refine aApp_old ?_ | refine J_c ?_ | refine Jc_true ?_ | refine Jc_false ?_ | exact Frz.f _ | (refine Kont.go (by assumption) ?_) | (simp (config := { maxSteps := 3000000 }) (disch := omega) only [go_sem, Nat.reduceEqDiff, ↓reduceIte, Nat.reduceAdd, Nat.reduceLT, Nat.reduceLeDiff, Int.reduceLT, Int.reduceLE, Int.reduceEq, Int.reduceNe, Int.reduceAdd, Int.reduceSub, Int.reduceMul, Int.reduceNeg, Int.reduceToNat])) | refine And.intro (by omega) ?_ | refine And.intro (And.intro (by omega) (by omega)) ?_)
    rw [show decide ((512 : Int) < (((ls.map List.length).sum : Nat) : Int)) = decide (512 < (ls.map List.length).sum) by congr 1; exact propext ⟨fun h => by omega, fun h => by omega⟩]
    exact Frz.f _
end Go.Proofs.YtcgagiimlkjcpaaDoor
namespace Go.Proofs.YtcgagiimlkjcpaaDoor
open Go Go.ChangeShapes Go.ChangeAt Go.RowKit
variable {H : Type} {enc : TypeId × Value → H} {P : Program}

def relay (cs : Array Value) : Obj → Obj
  | .cells _ t frozen => .cells cs t frozen
  | o => o
def firstCells : Array Value := (Go.Pinned.utf8FirstZ.map fun n : Nat => Value.int .u8 (n : Int)).toArray
def acceptCells : Array Value := #[.int .u8 128, .int .u8 191, .int .u8 160, .int .u8 191, .int .u8 128, .int .u8 159, .int .u8 144, .int .u8 191, .int .u8 128, .int .u8 143, .int .u8 0, .int .u8 0, .int .u8 0, .int .u8 0, .int .u8 0, .int .u8 0, .int .u8 0, .int .u8 0, .int .u8 0, .int .u8 0, .int .u8 0, .int .u8 0, .int .u8 0, .int .u8 0, .int .u8 0, .int .u8 0, .int .u8 0, .int .u8 0, .int .u8 0, .int .u8 0, .int .u8 0, .int .u8 0]
end Go.Proofs.YtcgagiimlkjcpaaDoor
