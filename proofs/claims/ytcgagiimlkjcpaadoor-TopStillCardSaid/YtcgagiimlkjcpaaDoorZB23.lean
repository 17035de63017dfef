/- All that one comes to, by a list that grows: plain Lean. Conditions: none. -/
import Derived.Test.YtcgagiimlkjcpaaDoorZB08
import Derived.Test.YtcgagiimlkjcpaaDoorZB12
import Derived.Test.YtcgagiimlkjcpaaDoorZB18
import Derived.Test.YtcgagiimlkjcpaaDoorZB20
import Derived.Test.YtcgagiimlkjcpaaDoorZB21
set_option linter.unusedVariables false
set_option linter.unusedSimpArgs false
namespace Go.Proofs.YtcgagiimlkjcpaaDoor
open Go Go.RowKit
theorem nodup_le : ∀ {n : Nat} {l : List Nat}, l.Nodup → (∀ a ∈ l, a < n) → l.length ≤ n := by
  intro n
  induction n with
  | zero =>
    intro l _ h
    cases l with
    | nil => exact Nat.le_refl _
    | cons a l => exact absurd (h a (by simp)) (by omega)
  | succ n ih =>
    intro l hd h
    by_cases hm : n ∈ l
    · have h1 := ih (l := l.erase n) (hd.erase n) fun a ha => by
        obtain ⟨h2, h3⟩ := hd.mem_erase_iff.1 ha
        have := h a h3
        omega
      rw [List.length_erase_of_mem hm] at h1
      omega
    · have h1 := ih hd fun a ha => by
        have := h a ha
        have : a ≠ n := fun e => hm (e ▸ ha)
        omega
      omega
structure Bfs (n : Nat) (E : Bx) (i : Nat) (l : List Nat) (k : Nat) : Prop where
  nd : l.Nodup
  at0 : i ∈ l
  lt : ∀ a ∈ l, a < n
  star : ∀ a ∈ l, Star n E i a
  out : ∀ a, a < k → ∀ b, b < n → E (l.getD a 0) b = true → b ∈ l
section
variable {n i k j : Nat} {E : Bx} {l : List Nat}
theorem Bfs.first (hi : i < n) : Bfs n E i [i] 0 := ⟨by simp, by simp, fun a h => by simp at h; omega, fun a h => by simp at h; rw [h]; exact .refl, fun a h => by omega⟩
theorem Bfs.len (h : Bfs n E i l k) : l.length ≤ n := nodup_le h.nd h.lt
theorem getD_snoc {l : List Nat} {a j : Nat} (h : a < l.length) : (l ++ [j]).getD a 0 = l.getD a 0 := by
  rw [List.getD_eq_getElem?_getD, List.getD_eq_getElem?_getD, List.getElem?_append_left h]
theorem Bfs.add (h : Bfs n E i l k) (hk : k < l.length) (hj : j < n) (he : E (l.getD k 0) j = true) (hn : j ∉ l) : Bfs n E i (l ++ [j]) k where
  nd := List.nodup_append.2 ⟨h.nd, by simp, fun a ha b hb => by simp at hb; exact fun e => hn (by rw [← hb, ← e]; exact ha)⟩
  at0 := List.mem_append_left _ h.at0
  lt a ha := by
    rcases List.mem_append.1 ha with ha | ha
    · exact h.lt a ha
    · simp at ha; omega
  star a ha := by
    rcases List.mem_append.1 ha with ha | ha
    · exact h.star a ha
    · simp at ha; subst ha
      have hm : l.getD k 0 ∈ l := by rw [lget_lt l 0 hk]; exact List.getElem_mem _
      exact .step (h.star _ hm) hj he
  out a ha b hb hE := by
    rw [getD_snoc (by omega)] at hE
    exact List.mem_append_left _ (h.out a ha b hb hE)
theorem Bfs.next (h : Bfs n E i l k) (ho : ∀ b, b < n → E (l.getD k 0) b = true → b ∈ l) : Bfs n E i l (k + 1) :=
  ⟨h.nd, h.at0, h.lt, h.star, fun a ha b hb hE => by
    by_cases e : a = k
    · subst e; exact ho b hb hE
    · exact h.out a (by omega) b hb hE⟩
theorem Bfs.done (h : Bfs n E i l k) (hk : l.length ≤ k) (a : Nat) : a ∈ l ↔ Star n E i a := ⟨h.star a, fun hs => by
  induction hs with
  | refl => exact h.at0
  | step _ hk' he ih =>
    obtain ⟨c, hc, e⟩ := List.getElem_of_mem ih
    exact h.out c (by omega) _ hk' (by rw [lget_lt l 0 hc, e]; exact he)⟩
end
end Go.Proofs.YtcgagiimlkjcpaaDoor
set_option linter.unusedVariables false
set_option linter.unusedSimpArgs false
namespace Go.Proofs.YtcgagiimlkjcpaaDoor
open Go Go.RowKit
def pickN (c : Int) (n : Nat) : Nat := (if c < 0 then -(c + 1) else c).toNat % n
theorem tmod_nat {c : Int} {n : Nat} (h : 0 ≤ c) : c.tmod (n : Int) = ((c.toNat % n : Nat) : Int) := by
  rw [Int.tmod_eq_emod_of_nonneg h, Int.natCast_emod, Int.toNat_of_nonneg h]
theorem pickN_lt (c : Int) {n : Nat} (h : 0 < n) : pickN c n < n := Nat.mod_lt _ h
set_option maxRecDepth 100000 in
theorem pick_good (c : Int) (n : Nat) (h1 : -9223372036854775808 ≤ c) (h2 : c ≤ 9223372036854775807) (h0 : 0 < n) (hn : n ≤ 9223372036854775807) : Good Tryd.prog 5 [I c, I n] (I (pickN c n)) := by
  unfold pickN
  refine good_of Tryd.func5 rfl (by kernel_rfl) fun X hO hrd => ?_; rw [Tryd.ntmps5, Tryd.results5]; simp only [ast0, List.map_cons, List.map_nil, List.length_cons, List.length_nil, Nat.reduceAdd, Nat.reduceSub, List.replicate_succ, List.replicate_zero, List.cons_append, List.nil_append]
  repeat (first | (with_reducible first | refine W_seq fun K hK => ?_ | refine J_block ?_ | refine J_skip ?_ | refine J_exit ?_ | refine J_ret ?_ | refine J_region ?_  | refine J_drawn mixed (by kernel_rfl) ?_ | refine aApp_sl ?_ | refine aApp_old ?_ | refine J_c ?_ | refine Jc_true ?_ | refine Jc_false ?_ | exact Frz.f _ | (refine Kont.go (by assumption) ?_) | (simp (config := { maxSteps := 3000000 }) (disch := omega) only [go_sem, Nat.reduceEqDiff, ↓reduceIte, Nat.reduceAdd, Nat.reduceLT, Nat.reduceLeDiff, Int.reduceLT, Int.reduceLE, Int.reduceEq, Int.reduceNe, Int.reduceAdd, Int.reduceSub, Int.reduceMul, Int.reduceNeg, Int.reduceToNat])) | refine And.intro (by omega) ?_ | refine And.intro (And.intro (by omega) (by omega)) ?_)
  refine Jc_if (fun hc => ?_) (fun hc => ?_) <;> try simp only [decide_eq_true_eq, decide_eq_false_iff_not, Bool.not_eq_true', Bool.not_eq_false', Bool.not_true, Bool.not_false, Int.ofNat_lt, Int.ofNat_le, Int.natCast_inj, Classical.not_not] at hc
  · repeat (first | (with_reducible first | refine W_seq fun K hK => ?_ | refine J_block ?_ | refine J_skip ?_ | refine J_exit ?_ | refine J_ret ?_ | refine J_region ?_  | refine J_drawn mixed (by kernel_rfl) ?_ | refine aApp_sl ?_ | refine aApp_old ?_ | refine J_c ?_ | refine Jc_true ?_ | refine Jc_false ?_ | exact Frz.f _ | (refine Kont.go (by assumption) ?_) | (simp (config := { maxSteps := 3000000 }) (disch := omega) only [go_sem, Nat.reduceEqDiff, ↓reduceIte, Nat.reduceAdd, Nat.reduceLT, Nat.reduceLeDiff, Int.reduceLT, Int.reduceLE, Int.reduceEq, Int.reduceNe, Int.reduceAdd, Int.reduceSub, Int.reduceMul, Int.reduceNeg, Int.reduceToNat, Int.zero_sub])) | refine And.intro (by omega) ?_ | refine And.intro (And.intro (by omega) (by omega)) ?_)
    rw [if_pos hc, ← tmod_nat (by omega)]
    exact Frz.f _
  · repeat (first | (with_reducible first | refine W_seq fun K hK => ?_ | refine J_block ?_ | refine J_skip ?_ | refine J_exit ?_ | refine J_ret ?_ | refine J_region ?_  | refine J_drawn mixed (by kernel_rfl) ?_ | refine aApp_sl ?_ | refine aApp_old ?_ | refine J_c ?_ | refine Jc_true ?_ | refine Jc_false ?_ | exact Frz.f _ | (refine Kont.go (by assumption) ?_) | (simp (config := { maxSteps := 3000000 }) (disch := omega) only [go_sem, Nat.reduceEqDiff, ↓reduceIte, Nat.reduceAdd, Nat.reduceLT, Nat.reduceLeDiff, Int.reduceLT, Int.reduceLE, Int.reduceEq, Int.reduceNe, Int.reduceAdd, Int.reduceSub, Int.reduceMul, Int.reduceNeg, Int.reduceToNat])) | refine And.intro (by omega) ?_ | refine And.intro (And.intro (by omega) (by omega)) ?_)
    rw [if_neg hc, ← tmod_nat (by omega)]
    exact Frz.f _
theorem pickI (c n : Int) (h1 : -9223372036854775808 ≤ c) (h2 : c ≤ 9223372036854775807) (h0 : 0 < n) (hn : n ≤ 9223372036854775807) : Good Tryd.prog 5 [I c, I n] (I (pickN c n.toNat)) := by
  have := pick_good c n.toNat h1 h2 (by omega) (by omega)
  rwa [Int.toNat_of_nonneg (by omega)] at this
end Go.Proofs.YtcgagiimlkjcpaaDoor
set_option linter.unusedVariables false
set_option linter.unusedSimpArgs false
namespace Go.Proofs.YtcgagiimlkjcpaaDoor
open Go Go.RowKit
def rowX (w : List Int) (k i : Nat) : Nat := if w = [] then 1 else pickN (w.getD ((k + i) % w.length) 0) 7
def rowL (w : List Int) (k n : Nat) : List Nat := (List.range n).map (rowX w k)
theorem rowX_lt (w : List Int) (k i : Nat) : rowX w k i < 7 := by
  unfold rowX pickN
  split
  · omega
  · exact Nat.mod_lt _ (by omega)
theorem rowL_succ (w : List Int) (k n : Nat) : rowL w k (n + 1) = rowL w k n ++ [rowX w k n] := by simp [rowL, List.range_succ]
theorem rowL_len (w : List Int) (k n : Nat) : (rowL w k n).length = n := by simp [rowL]
theorem rowL_sum (w : List Int) (k n : Nat) : (rowL w k n).sum ≤ n * 6 := by
  induction n with
  | zero => simp [rowL]
  | succ n ih => rw [rowL_succ, List.sum_append]; have := rowX_lt w k n; simp; omega
def rowS (w : List Int) (k n : Nat) : Nat := if (rowL w k n).sum = 0 then 1 else (rowL w k n).sum
def rowM (w : List Int) (k n : Nat) : List Nat := if (rowL w k n).sum = 0 then (rowL w k n).set 0 1 else rowL w k n
def rowOf (w : List Int) (k n : Nat) : List Rat := (rowM w k n).map fun x : Nat => ((x : Int) : Rat) / ((rowS w k n : Int) : Rat)
abbrev nI (n : Nat) : FV := I (n : Int)
theorem i64_get {w : List Int} (hw : ∀ x ∈ w, -9223372036854775808 ≤ x ∧ x ≤ 9223372036854775807) {i : Nat} (h : i < w.length) : -9223372036854775808 ≤ w[i] ∧ w[i] ≤ 9223372036854775807 := hw _ (List.getElem_mem h)
theorem rowM_len (w : List Int) (k n : Nat) : (rowM w k n).length = n := by unfold rowM; split <;> simp [rowL_len]
theorem rowM_lt (w : List Int) (k n : Nat) : ∀ x ∈ rowM w k n, x < 7 := by
  have h : ∀ x ∈ rowL w k n, x < 7 := fun x hx => by
    obtain ⟨i, _, rfl⟩ := List.mem_map.1 hx
    exact rowX_lt w k i
  intro x hx
  unfold rowM at hx
  split at hx
  · rcases List.mem_or_eq_of_mem_set hx with hx | rfl
    · exact h x hx
    · omega
  · exact h x hx
set_option maxRecDepth 100000 in
set_option maxHeartbeats 2000000 in
theorem rowOf_good (w : List Int) (k n : Nat) (hw : ∀ x ∈ w, -9223372036854775808 ≤ x ∧ x ≤ 9223372036854775807) (hk : k ≤ 1000000000) (h1 : 1 ≤ n) (hn : n ≤ 1000) (hwl : w.length ≤ 140737488355328) : Good Tryd.prog 16 [ints w, I k, I n] (frs (rowOf w k n)) := by
  have hsn := rowL_sum w k n
  refine good_of Tryd.func16 rfl (by kernel_rfl) fun X hO hrd => ?_; rw [Tryd.ntmps16, Tryd.results16]; simp only [ast0, List.map_cons, List.map_nil, List.length_cons, List.length_nil, Nat.reduceAdd, Nat.reduceSub, List.replicate_succ, List.replicate_zero, List.cons_append, List.nil_append]
  repeat (first | (with_reducible first | refine W_seq fun K hK => ?_ | refine J_block ?_ | refine J_skip ?_ | refine J_exit ?_ | refine J_ret ?_ | refine J_region ?_  | refine J_drawn mixed (by kernel_rfl) ?_ | refine aApp_sl ?_ | refine aApp_old ?_ | refine J_c ?_ | refine Jc_true ?_ | refine Jc_false ?_ | exact Frz.f _ | (refine Kont.go (by assumption) ?_) | (simp (config := { maxSteps := 3000000 }) (disch := omega) only [go_sem, Nat.reduceEqDiff, ↓reduceIte, Nat.reduceAdd, Nat.reduceLT, Nat.reduceLeDiff, Int.reduceLT, Int.reduceLE, Int.reduceEq, Int.reduceNe, Int.reduceAdd, Int.reduceSub, Int.reduceMul, Int.reduceNeg, Int.reduceToNat])) | refine call_f (pickI _ _ (by omega) (by omega) (by omega) (by omega)) rfl ?_ | refine callQ_f (pickI _ _ (by omega) (by omega) (by omega) (by omega)) rfl ?_ | refine call_f (rof_frac (by omega) (by omega)) rfl ?_ | refine callQ_f (rof_frac (by omega) (by omega)) rfl ?_ | refine call_f (rdiv_w (by assumption) (by assumption) (by omega) (by omega) (by assumption)) rfl ?_ | refine callQ_f (rdiv_w (by assumption) (by assumption) (by omega) (by omega) (by assumption)) rfl ?_ | refine And.intro (by omega) ?_ | refine And.intro (And.intro (by omega) (by omega)) ?_)
  refine J_reserve ?_
  refine W_loop [7, 8, 9, 10, 15, 16, 17, 18, 19, 20, 21, 22, 23, 24, 25, 26, 27, 28, 29, 30, 31, 32, 33, 34, 35, 36, 37, 38, 39] (fun x : Nat => [(9, .f (I x)), (8, .f (I ((rowL w k x).sum : Nat))), (7, sl 0 1 ((rowL w k x).map nI))]) (fun x : Nat => [ob 3 1 ((rowL w k x).map nI)]) (fun x : Nat => x ≤ n) (fun x : Nat => n - x) (0) (Nat.zero_le _) (by refine weak_of ?_ ?_ <;> simp (disch := omega) only [go_sem, Nat.reduceAdd, Nat.reduceLT, Nat.reduceEqDiff] <;> first | rfl | exact ⟨rfl, rfl⟩ | exact Or.inl rfl | exact ⟨Or.inl rfl, Or.inl rfl⟩ | trivial | assumption | omega | (symm; assumption) | ((repeat' apply And.intro) <;> first | rfl | omega | trivial | exact .inr ⟨rfl, rfl⟩ | exact .inr rfl | (right; symm; assumption) | (symm; assumption) | assumption)) ?_
  rintro i hi
  simp only [go_sem, Nat.reduceAdd, Nat.reduceLT, Nat.reduceEqDiff]
  repeat (first | (with_reducible first | refine W_seq fun K hK => ?_ | refine J_block ?_ | refine J_skip ?_ | refine J_exit ?_ | refine J_ret ?_ | refine J_region ?_  | refine J_drawn mixed (by kernel_rfl) ?_ | refine aApp_sl ?_ | refine aApp_old ?_ | refine J_c ?_ | refine Jc_true ?_ | refine Jc_false ?_ | exact Frz.f _ | (refine Kont.go (by assumption) ?_) | (simp (config := { maxSteps := 3000000 }) (disch := omega) only [go_sem, Nat.reduceEqDiff, ↓reduceIte, Nat.reduceAdd, Nat.reduceLT, Nat.reduceLeDiff, Int.reduceLT, Int.reduceLE, Int.reduceEq, Int.reduceNe, Int.reduceAdd, Int.reduceSub, Int.reduceMul, Int.reduceNeg, Int.reduceToNat])) | refine call_f (pickI _ _ (by omega) (by omega) (by omega) (by omega)) rfl ?_ | refine callQ_f (pickI _ _ (by omega) (by omega) (by omega) (by omega)) rfl ?_ | refine call_f (rof_frac (by omega) (by omega)) rfl ?_ | refine callQ_f (rof_frac (by omega) (by omega)) rfl ?_ | refine call_f (rdiv_w (by assumption) (by assumption) (by omega) (by omega) (by assumption)) rfl ?_ | refine callQ_f (rdiv_w (by assumption) (by assumption) (by omega) (by omega) (by assumption)) rfl ?_ | refine And.intro (by omega) ?_ | refine And.intro (And.intro (by omega) (by omega)) ?_)
  refine Jc_if (fun hlt => ?_) (fun hlt => ?_) <;> try simp only [decide_eq_true_eq, decide_eq_false_iff_not, Bool.not_eq_true', Bool.not_eq_false', Bool.not_true, Bool.not_false, Int.ofNat_lt, Int.ofNat_le, Int.natCast_inj, Classical.not_not] at hlt
  · have hsum := rowL_sum w k i
    have hsi := rowL_sum w k (i + 1)
    have hx7 := rowX_lt w k i
    have hs2 : (rowL w k (i + 1)).sum = (rowL w k i).sum + rowX w k i := by rw [rowL_succ, List.sum_append]; simp
    have hmap : (rowL w k i).map nI ++ [I (rowX w k i : Nat)] = (rowL w k (i + 1)).map nI := by rw [rowL_succ, List.map_append]; rfl
    by_cases hw0 : w = []
    · have hx1 : rowX w k i = 1 := by unfold rowX; rw [if_pos hw0]
      rw [hx1] at hs2 hmap
      have hwl0 : w.length = 0 := by rw [hw0]; rfl
      have hmap1 : (rowL w k i).map nI ++ [.v (.int .i64 1)] = (rowL w k (i + 1)).map nI := hmap
      repeat (first | (with_reducible first | refine W_seq fun K hK => ?_ | refine J_block ?_ | refine J_skip ?_ | refine J_exit ?_ | refine J_ret ?_ | refine J_region ?_  | refine J_drawn mixed (by kernel_rfl) ?_ | refine aApp_sl ?_ | refine aApp_old ?_ | refine J_c ?_ | refine Jc_true ?_ | refine Jc_false ?_ | exact Frz.f _ | (refine Kont.go (by assumption) ?_) | (simp (config := { maxSteps := 3000000 }) (disch := omega) only [go_sem, Nat.reduceEqDiff, ↓reduceIte, Nat.reduceAdd, Nat.reduceLT, Nat.reduceLeDiff, Int.reduceLT, Int.reduceLE, Int.reduceEq, Int.reduceNe, Int.reduceAdd, Int.reduceSub, Int.reduceMul, Int.reduceNeg, Int.reduceToNat, List.length_map, rowL_len, hwl0, hmap1])) | refine call_f (pickI _ _ (by omega) (by omega) (by omega) (by omega)) rfl ?_ | refine callQ_f (pickI _ _ (by omega) (by omega) (by omega) (by omega)) rfl ?_ | refine call_f (rof_frac (by omega) (by omega)) rfl ?_ | refine callQ_f (rof_frac (by omega) (by omega)) rfl ?_ | refine call_f (rdiv_w (by assumption) (by assumption) (by omega) (by omega) (by assumption)) rfl ?_ | refine callQ_f (rdiv_w (by assumption) (by assumption) (by omega) (by omega) (by assumption)) rfl ?_ | refine And.intro (by omega) ?_ | refine And.intro (And.intro (by omega) (by omega)) ?_)
      refine ⟨i + 1, by omega, by omega, weak_of ?_ ?_⟩ <;> (try simp (disch := omega) only [go_sem, Nat.reduceAdd, Nat.reduceLT, Nat.reduceEqDiff]) <;> (try first | done | omega | rfl | exact ⟨rfl, rfl⟩ | trivial)
    · have hwp : 0 < w.length := List.length_pos_iff.2 hw0
      have hm : (k + i) % w.length < w.length := Nat.mod_lt _ hwp
      have hx := i64_get hw hm
      have hxx : rowX w k i = pickN w[(k + i) % w.length] 7 := by unfold rowX; rw [if_neg hw0, lget_lt w 0 hm]
      have hmod : ((k : Int) + (i : Int)).tmod (w.length : Int) = (((k + i) % w.length : Nat) : Int) := tmod_nat (by omega)
      rw [hxx] at hs2 hmap hx7
      repeat (first | (with_reducible first | refine W_seq fun K hK => ?_ | refine J_block ?_ | refine J_skip ?_ | refine J_exit ?_ | refine J_ret ?_ | refine J_region ?_  | refine J_drawn mixed (by kernel_rfl) ?_ | refine aApp_sl ?_ | refine aApp_old ?_ | refine J_c ?_ | refine Jc_true ?_ | refine Jc_false ?_ | exact Frz.f _ | (refine Kont.go (by assumption) ?_) | (simp (config := { maxSteps := 3000000 }) (disch := omega) only [go_sem, Nat.reduceEqDiff, ↓reduceIte, Nat.reduceAdd, Nat.reduceLT, Nat.reduceLeDiff, Int.reduceLT, Int.reduceLE, Int.reduceEq, Int.reduceNe, Int.reduceAdd, Int.reduceSub, Int.reduceMul, Int.reduceNeg, Int.reduceToNat, List.length_map, rowL_len, hwp, hmod, map_get I w hm, hmap])) | refine call_f (pickI _ _ (by omega) (by omega) (by omega) (by omega)) rfl ?_ | refine callQ_f (pickI _ _ (by omega) (by omega) (by omega) (by omega)) rfl ?_ | refine call_f (rof_frac (by omega) (by omega)) rfl ?_ | refine callQ_f (rof_frac (by omega) (by omega)) rfl ?_ | refine call_f (rdiv_w (by assumption) (by assumption) (by omega) (by omega) (by assumption)) rfl ?_ | refine callQ_f (rdiv_w (by assumption) (by assumption) (by omega) (by omega) (by assumption)) rfl ?_ | refine And.intro (by omega) ?_ | refine And.intro (And.intro (by omega) (by omega)) ?_)
      refine ⟨i + 1, by omega, by omega, weak_of ?_ ?_⟩ <;> (try simp (disch := omega) only [go_sem, Nat.reduceAdd, Nat.reduceLT, Nat.reduceEqDiff]) <;> (try first | done | omega | rfl | exact ⟨rfl, rfl⟩ | trivial)
  · have he : i = n := by omega
    subst he
    have hlen : ((rowL w k i).map nI) ≠ [] := fun h => by have := congrArg List.length h; simp [rowL_len] at this; omega
    have hlen2 : ((rowM w k i).map nI) ≠ [] := fun h => by have := congrArg List.length h; simp [rowM_len] at this; omega
    repeat (first | (with_reducible first | refine W_seq fun K hK => ?_ | refine J_block ?_ | refine J_skip ?_ | refine J_exit ?_ | refine J_ret ?_ | refine J_region ?_  | refine J_drawn mixed (by kernel_rfl) ?_ | refine aApp_sl ?_ | refine aApp_old ?_ | refine J_c ?_ | refine Jc_true ?_ | refine Jc_false ?_ | exact Frz.f _ | (refine Kont.go (by assumption) ?_) | (simp (config := { maxSteps := 3000000 }) (disch := omega) only [go_sem, Nat.reduceEqDiff, ↓reduceIte, Nat.reduceAdd, Nat.reduceLT, Nat.reduceLeDiff, Int.reduceLT, Int.reduceLE, Int.reduceEq, Int.reduceNe, Int.reduceAdd, Int.reduceSub, Int.reduceMul, Int.reduceNeg, Int.reduceToNat])) | refine call_f (pickI _ _ (by omega) (by omega) (by omega) (by omega)) rfl ?_ | refine callQ_f (pickI _ _ (by omega) (by omega) (by omega) (by omega)) rfl ?_ | refine call_f (rof_frac (by omega) (by omega)) rfl ?_ | refine callQ_f (rof_frac (by omega) (by omega)) rfl ?_ | refine call_f (rdiv_w (by assumption) (by assumption) (by omega) (by omega) (by assumption)) rfl ?_ | refine callQ_f (rdiv_w (by assumption) (by assumption) (by omega) (by omega) (by assumption)) rfl ?_ | refine And.intro (by omega) ?_ | refine And.intro (And.intro (by omega) (by omega)) ?_)
    refine Jc_join (by assumption) [7, 8, 40, 41, 42, 43] (fun z : Unit => [(7, sl 0 1 ((rowM w k i).map nI)), (8, .f (I (rowS w k i)))]) (fun z : Unit => [ob 3 1 ((rowM w k i).map nI)]) (fun z : Unit => True) ?_ ?_
    · by_cases hz : (rowL w k i).sum = 0
      · have hM : rowM w k i = (rowL w k i).set 0 1 := by unfold rowM; rw [if_pos hz]
        have hS : rowS w k i = 1 := by unfold rowS; rw [if_pos hz]
        have h0 := mm_get nI (rowL w k i) (i := 0) (by rw [rowL_len]; omega)
        repeat (first | (with_reducible first | refine W_seq fun K hK => ?_ | refine J_block ?_ | refine J_skip ?_ | refine J_exit ?_ | refine J_ret ?_ | refine J_region ?_  | refine J_drawn mixed (by kernel_rfl) ?_ | refine aApp_sl ?_ | refine aApp_old ?_ | refine J_c ?_ | refine Jc_true ?_ | refine Jc_false ?_ | exact Frz.f _ | (refine Kont.go (by assumption) ?_) | (simp (config := { maxSteps := 3000000 }) (disch := omega) only [go_sem, Nat.reduceEqDiff, ↓reduceIte, Nat.reduceAdd, Nat.reduceLT, Nat.reduceLeDiff, Int.reduceLT, Int.reduceLE, Int.reduceEq, Int.reduceNe, Int.reduceAdd, Int.reduceSub, Int.reduceMul, Int.reduceNeg, Int.reduceToNat, hz, List.length_map, rowL_len, h0])) | refine call_f (pickI _ _ (by omega) (by omega) (by omega) (by omega)) rfl ?_ | refine callQ_f (pickI _ _ (by omega) (by omega) (by omega) (by omega)) rfl ?_ | refine call_f (rof_frac (by omega) (by omega)) rfl ?_ | refine callQ_f (rof_frac (by omega) (by omega)) rfl ?_ | refine call_f (rdiv_w (by assumption) (by assumption) (by omega) (by omega) (by assumption)) rfl ?_ | refine callQ_f (rdiv_w (by assumption) (by assumption) (by omega) (by omega) (by assumption)) rfl ?_ | refine And.intro (by omega) ?_ | refine And.intro (And.intro (by omega) (by omega)) ?_)
        refine weak_of ?_ ?_ <;> simp only [go_sem, Nat.reduceAdd, Nat.reduceLT, Nat.reduceEqDiff]
        · rw [sl_pos hlen, sl_pos hlen2]; simp [rowL_len, rowM_len, hS]
        · rw [ob_pos hlen2, hM]; right; simp [List.map_set]; rfl
      · have hM : rowM w k i = rowL w k i := by unfold rowM; rw [if_neg hz]
        have hS : rowS w k i = (rowL w k i).sum := by unfold rowS; rw [if_neg hz]
        repeat (first | (with_reducible first | refine W_seq fun K hK => ?_ | refine J_block ?_ | refine J_skip ?_ | refine J_exit ?_ | refine J_ret ?_ | refine J_region ?_  | refine J_drawn mixed (by kernel_rfl) ?_ | refine aApp_sl ?_ | refine aApp_old ?_ | refine J_c ?_ | refine Jc_true ?_ | refine Jc_false ?_ | exact Frz.f _ | (refine Kont.go (by assumption) ?_) | (simp (config := { maxSteps := 3000000 }) (disch := omega) only [go_sem, Nat.reduceEqDiff, ↓reduceIte, Nat.reduceAdd, Nat.reduceLT, Nat.reduceLeDiff, Int.reduceLT, Int.reduceLE, Int.reduceEq, Int.reduceNe, Int.reduceAdd, Int.reduceSub, Int.reduceMul, Int.reduceNeg, Int.reduceToNat, hz])) | refine call_f (pickI _ _ (by omega) (by omega) (by omega) (by omega)) rfl ?_ | refine callQ_f (pickI _ _ (by omega) (by omega) (by omega) (by omega)) rfl ?_ | refine call_f (rof_frac (by omega) (by omega)) rfl ?_ | refine callQ_f (rof_frac (by omega) (by omega)) rfl ?_ | refine call_f (rdiv_w (by assumption) (by assumption) (by omega) (by omega) (by assumption)) rfl ?_ | refine callQ_f (rdiv_w (by assumption) (by assumption) (by omega) (by omega) (by assumption)) rfl ?_ | refine And.intro (by omega) ?_ | refine And.intro (And.intro (by omega) (by omega)) ?_)
        rw [hM, hS]
        refine weak_of ?_ ?_ <;> simp only [go_sem, Nat.reduceAdd, Nat.reduceLT, Nat.reduceEqDiff]
    · rintro _ _
      simp only [go_sem, Nat.reduceAdd, Nat.reduceLT, Nat.reduceEqDiff]
      have hS1 : 1 ≤ rowS w k i := by unfold rowS; split <;> omega
      have hS2 : rowS w k i ≤ 6000 := by unfold rowS; split <;> omega
      have hRl : (rowOf w k i).length = i := by simp [rowOf, rowM_len]
      repeat (first | (with_reducible first | refine W_seq fun K hK => ?_ | refine J_block ?_ | refine J_skip ?_ | refine J_exit ?_ | refine J_ret ?_ | refine J_region ?_  | refine J_drawn mixed (by kernel_rfl) ?_ | refine aApp_sl ?_ | refine aApp_old ?_ | refine J_c ?_ | refine Jc_true ?_ | refine Jc_false ?_ | exact Frz.f _ | (refine Kont.go (by assumption) ?_) | (simp (config := { maxSteps := 3000000 }) (disch := omega) only [go_sem, Nat.reduceEqDiff, ↓reduceIte, Nat.reduceAdd, Nat.reduceLT, Nat.reduceLeDiff, Int.reduceLT, Int.reduceLE, Int.reduceEq, Int.reduceNe, Int.reduceAdd, Int.reduceSub, Int.reduceMul, Int.reduceNeg, Int.reduceToNat])) | refine call_f (pickI _ _ (by omega) (by omega) (by omega) (by omega)) rfl ?_ | refine callQ_f (pickI _ _ (by omega) (by omega) (by omega) (by omega)) rfl ?_ | refine call_f (rof_frac (by omega) (by omega)) rfl ?_ | refine callQ_f (rof_frac (by omega) (by omega)) rfl ?_ | refine call_f (rdiv_w (by assumption) (by assumption) (by omega) (by omega) (by assumption)) rfl ?_ | refine callQ_f (rdiv_w (by assumption) (by assumption) (by omega) (by omega) (by assumption)) rfl ?_ | refine And.intro (by omega) ?_ | refine And.intro (And.intro (by omega) (by omega)) ?_)
      refine J_reserve ?_
      refine W_loop [11, 12, 13, 14, 44, 45, 46, 47, 48, 49, 50, 51, 52, 53, 54, 55, 56, 57, 58, 59, 60, 61, 62, 63] (fun x : Nat => [(12, .f (I x)), (11, sl 1 3 (((rowOf w k i).take x).map fr))]) (fun x : Nat => [ob 3 1 ((rowM w k i).map nI), ob 39 3 (((rowOf w k i).take x).map fr)]) (fun x : Nat => x ≤ i) (fun x : Nat => i - x) (0) (Nat.zero_le _) (by refine weak_of ?_ ?_ <;> simp (disch := omega) only [go_sem, Nat.reduceAdd, Nat.reduceLT, Nat.reduceEqDiff] <;> first | rfl | exact ⟨rfl, rfl⟩ | exact Or.inl rfl | exact ⟨Or.inl rfl, Or.inl rfl⟩ | trivial | assumption | omega | (symm; assumption) | ((repeat' apply And.intro) <;> first | rfl | omega | trivial | exact .inr ⟨rfl, rfl⟩ | exact .inr rfl | (right; symm; assumption) | (symm; assumption) | assumption)) ?_
      rintro j hj
      simp only [go_sem, Nat.reduceAdd, Nat.reduceLT, Nat.reduceEqDiff]
      repeat (first | (with_reducible first | refine W_seq fun K hK => ?_ | refine J_block ?_ | refine J_skip ?_ | refine J_exit ?_ | refine J_ret ?_ | refine J_region ?_  | refine J_drawn mixed (by kernel_rfl) ?_ | refine aApp_sl ?_ | refine aApp_old ?_ | refine J_c ?_ | refine Jc_true ?_ | refine Jc_false ?_ | exact Frz.f _ | (refine Kont.go (by assumption) ?_) | (simp (config := { maxSteps := 3000000 }) (disch := omega) only [go_sem, Nat.reduceEqDiff, ↓reduceIte, Nat.reduceAdd, Nat.reduceLT, Nat.reduceLeDiff, Int.reduceLT, Int.reduceLE, Int.reduceEq, Int.reduceNe, Int.reduceAdd, Int.reduceSub, Int.reduceMul, Int.reduceNeg, Int.reduceToNat])) | refine call_f (pickI _ _ (by omega) (by omega) (by omega) (by omega)) rfl ?_ | refine callQ_f (pickI _ _ (by omega) (by omega) (by omega) (by omega)) rfl ?_ | refine call_f (rof_frac (by omega) (by omega)) rfl ?_ | refine callQ_f (rof_frac (by omega) (by omega)) rfl ?_ | refine call_f (rdiv_w (by assumption) (by assumption) (by omega) (by omega) (by assumption)) rfl ?_ | refine callQ_f (rdiv_w (by assumption) (by assumption) (by omega) (by omega) (by assumption)) rfl ?_ | refine And.intro (by omega) ?_ | refine And.intro (And.intro (by omega) (by omega)) ?_)
      refine Jc_if (fun hlt2 => ?_) (fun hlt2 => ?_) <;> try simp only [decide_eq_true_eq, decide_eq_false_iff_not, Bool.not_eq_true', Bool.not_eq_false', Bool.not_true, Bool.not_false, Int.ofNat_lt, Int.ofNat_le, Int.natCast_inj, Classical.not_not] at hlt2
      · have hjm : j < (rowM w k i).length := by rw [rowM_len]; exact hlt2
        have hx7 := rowM_lt w k i _ (List.getElem_mem hjm)
        have hjr : j < (rowOf w k i).length := by rw [hRl]; exact hlt2
        have hrj : (rowOf w k i)[j] = (((rowM w k i)[j] : Int) : Rat) / ((rowS w k i : Int) : Rat) := by simp [rowOf]
        repeat (first | (with_reducible first | refine W_seq fun K hK => ?_ | refine J_block ?_ | refine J_skip ?_ | refine J_exit ?_ | refine J_ret ?_ | refine J_region ?_  | refine J_drawn mixed (by kernel_rfl) ?_ | refine aApp_sl ?_ | refine aApp_old ?_ | refine J_c ?_ | refine Jc_true ?_ | refine Jc_false ?_ | exact Frz.f _ | (refine Kont.go (by assumption) ?_) | (simp (config := { maxSteps := 3000000 }) (disch := omega) only [go_sem, Nat.reduceEqDiff, ↓reduceIte, Nat.reduceAdd, Nat.reduceLT, Nat.reduceLeDiff, Int.reduceLT, Int.reduceLE, Int.reduceEq, Int.reduceNe, Int.reduceAdd, Int.reduceSub, Int.reduceMul, Int.reduceNeg, Int.reduceToNat, List.length_map, rowM_len, mm_get nI (rowM w k i) hjm, hlt2])) | refine call_f (pickI _ _ (by omega) (by omega) (by omega) (by omega)) rfl ?_ | refine callQ_f (pickI _ _ (by omega) (by omega) (by omega) (by omega)) rfl ?_ | refine call_f (rof_frac (by omega) (by omega)) rfl ?_ | refine callQ_f (rof_frac (by omega) (by omega)) rfl ?_ | refine call_f (rdiv_w (by assumption) (by assumption) (by omega) (by omega) (by assumption)) rfl ?_ | refine callQ_f (rdiv_w (by assumption) (by assumption) (by omega) (by omega) (by assumption)) rfl ?_ | refine And.intro (by omega) ?_ | refine And.intro (And.intro (by omega) (by omega)) ?_)
        refine call_f (rdiv_w (IsFr.int (by omega) (by omega)) (IsFr.int (by omega) (by omega)) (by omega) (by omega) (fun h => by have := Rat.intCast_eq_zero_iff.1 h; omega)) rfl ?_
        rw [← hrj]
        repeat (first | (with_reducible first | refine W_seq fun K hK => ?_ | refine J_block ?_ | refine J_skip ?_ | refine J_exit ?_ | refine J_ret ?_ | refine J_region ?_  | refine J_drawn mixed (by kernel_rfl) ?_ | refine aApp_sl ?_ | refine aApp_old ?_ | refine J_c ?_ | refine Jc_true ?_ | refine Jc_false ?_ | exact Frz.f _ | (refine Kont.go (by assumption) ?_) | (simp (config := { maxSteps := 3000000 }) (disch := omega) only [go_sem, Nat.reduceEqDiff, ↓reduceIte, Nat.reduceAdd, Nat.reduceLT, Nat.reduceLeDiff, Int.reduceLT, Int.reduceLE, Int.reduceEq, Int.reduceNe, Int.reduceAdd, Int.reduceSub, Int.reduceMul, Int.reduceNeg, Int.reduceToNat, List.length_map, List.length_take, tk_next fr (rowOf w k i) hjr])) | refine call_f (pickI _ _ (by omega) (by omega) (by omega) (by omega)) rfl ?_ | refine callQ_f (pickI _ _ (by omega) (by omega) (by omega) (by omega)) rfl ?_ | refine call_f (rof_frac (by omega) (by omega)) rfl ?_ | refine callQ_f (rof_frac (by omega) (by omega)) rfl ?_ | refine call_f (rdiv_w (by assumption) (by assumption) (by omega) (by omega) (by assumption)) rfl ?_ | refine callQ_f (rdiv_w (by assumption) (by assumption) (by omega) (by omega) (by assumption)) rfl ?_ | refine And.intro (by omega) ?_ | refine And.intro (And.intro (by omega) (by omega)) ?_)
        refine ⟨j + 1, by omega, by omega, weak_of ?_ ?_⟩ <;> (try simp (disch := omega) only [go_sem, Nat.reduceAdd, Nat.reduceLT, Nat.reduceEqDiff]) <;> (try first | done | omega | rfl | exact ⟨rfl, rfl⟩ | trivial)
        done
      · have he : j = i := by omega
        subst he
        repeat (first | (with_reducible first | refine W_seq fun K hK => ?_ | refine J_block ?_ | refine J_skip ?_ | refine J_exit ?_ | refine J_ret ?_ | refine J_region ?_  | refine J_drawn mixed (by kernel_rfl) ?_ | refine aApp_sl ?_ | refine aApp_old ?_ | refine J_c ?_ | refine Jc_true ?_ | refine Jc_false ?_ | exact Frz.f _ | (refine Kont.go (by assumption) ?_) | (simp (config := { maxSteps := 3000000 }) (disch := omega) only [go_sem, Nat.reduceEqDiff, ↓reduceIte, Nat.reduceAdd, Nat.reduceLT, Nat.reduceLeDiff, Int.reduceLT, Int.reduceLE, Int.reduceEq, Int.reduceNe, Int.reduceAdd, Int.reduceSub, Int.reduceMul, Int.reduceNeg, Int.reduceToNat])) | refine call_f (pickI _ _ (by omega) (by omega) (by omega) (by omega)) rfl ?_ | refine callQ_f (pickI _ _ (by omega) (by omega) (by omega) (by omega)) rfl ?_ | refine call_f (rof_frac (by omega) (by omega)) rfl ?_ | refine callQ_f (rof_frac (by omega) (by omega)) rfl ?_ | refine call_f (rdiv_w (by assumption) (by assumption) (by omega) (by omega) (by assumption)) rfl ?_ | refine callQ_f (rdiv_w (by assumption) (by assumption) (by omega) (by omega) (by assumption)) rfl ?_ | refine And.intro (by omega) ?_ | refine And.intro (And.intro (by omega) (by omega)) ?_)
        rw [tk_all fr _ (by omega)]
        exact Frz.sl rfl
theorem rowI {w : List Int} {k n : Int} {k' n' : Nat} (hk' : k = k') (hn' : n = n') (hw : ∀ x ∈ w, -9223372036854775808 ≤ x ∧ x ≤ 9223372036854775807) (hk : k' ≤ 1000000000) (h1 : 1 ≤ n') (hn : n' ≤ 1000) (hwl : w.length ≤ 140737488355328) : Good Tryd.prog 16 [ints w, I k, I n] (frs (rowOf w k' n')) := by
  subst hk'; subst hn'; exact rowOf_good w k' n' hw hk h1 hn hwl
theorem rowOf_len (w : List Int) (k n : Nat) : (rowOf w k n).length = n := by simp [rowOf, rowM_len]
theorem rowS_pos (w : List Int) (k n : Nat) : 1 ≤ rowS w k n := by unfold rowS; split <;> omega
theorem rowS_le (w : List Int) (k n : Nat) (h : 1 ≤ n) : rowS w k n ≤ n * 6 := by have := rowL_sum w k n; unfold rowS; split <;> omega
theorem rowM_sum (w : List Int) (k n : Nat) (h : 1 ≤ n) : (rowM w k n).sum = rowS w k n := by
  unfold rowM rowS
  split
  · rename_i h0
    have e : ∀ l : List Nat, l ≠ [] → l.sum = 0 → (l.set 0 1).sum = 1 := fun l hl hall => by
      cases l with
      | nil => exact absurd rfl hl
      | cons a l => simp at hall ⊢; exact hall.2
    exact e _ (fun hh => by have := congrArg List.length hh; rw [rowL_len] at this; simp at this; omega) h0
  · rfl
end Go.Proofs.YtcgagiimlkjcpaaDoor
set_option linter.unusedVariables false
set_option linter.unusedSimpArgs false
namespace Go.Proofs.YtcgagiimlkjcpaaDoor
open Go Go.RowKit
section
variable {l : List Int} {n v x : Nat}
end
end Go.Proofs.YtcgagiimlkjcpaaDoor
set_option linter.unusedVariables false
set_option linter.unusedSimpArgs false
namespace Go.Proofs.YtcgagiimlkjcpaaDoor
open Go Go.RowKit
end Go.Proofs.YtcgagiimlkjcpaaDoor
set_option linter.unusedVariables false
set_option linter.unusedSimpArgs false
namespace Go.Proofs.YtcgagiimlkjcpaaDoor
open Go Go.RowKit
section
variable {n : Nat} {f g : Nat → Rat} {A : Mx} {p w : Nat → Rat}
def evS (n : Nat) (A : Mx) (i : Nat) : Rat := sumF (fun j => A i j + A j i) n
def evM (n : Nat) (A : Mx) : Mx := fun i k => (A i k + A k i) / evS n A i
end
section
variable {n : Nat} {R : Bx}
end
end Go.Proofs.YtcgagiimlkjcpaaDoor
set_option linter.unusedVariables false
set_option linter.unusedSimpArgs false
namespace Go.Proofs.YtcgagiimlkjcpaaDoor
open Go Go.RowKit
def cntT (bs : List Bool) : Nat → Nat
  | 0 => 0
  | x + 1 => if bs.getD x false = true then cntT bs x + 1 else cntT bs x
theorem cntT_le {bs : List Bool} : ∀ x, cntT bs x ≤ x := by
  intro x
  induction x with
  | zero => exact Nat.le_refl _
  | succ x ih => show (if bs.getD x false = true then cntT bs x + 1 else cntT bs x) ≤ x + 1; split <;> omega
def evR (n : Nat) (A : Mx) (i : Nat) : Nat → Rat := fun k => A i k + A k i
def evTo (n : Nat) (A : Mx) (i x : Nat) : List FV := (List.range x).map fun k => fr (evR n A i k)
def evL (n : Nat) (A : Mx) (i : Nat) : List Rat := (List.range n).map (evM n A i)
def evLs (n : Nat) (A : Mx) (x : Nat) : List FV := (List.range x).map fun i => frs (evL n A i)
section
variable {n i x : Nat} {A : Mx}
theorem evTo_zero : evTo n A i 0 = [] := rfl
theorem evLs_zero : evLs n A 0 = [] := rfl
end
attribute [go_sem] evTo_zero evLs_zero
end Go.Proofs.YtcgagiimlkjcpaaDoor
set_option linter.unusedVariables false
set_option linter.unusedSimpArgs false
namespace Go.Proofs.YtcgagiimlkjcpaaDoor
open Go Go.RowKit
section
variable {B : List Bool} {q : Nat}
theorem cnt_one (hall : ∀ j, j ≠ q → B.getD j false = false) (hq : B.getD q false = true) : ∀ x, cntT B x = if q < x then 1 else 0 := by
  intro x
  induction x with
  | zero => rfl
  | succ x ih =>
    show (if B.getD x false = true then cntT B x + 1 else cntT B x) = _
    by_cases e : x = q
    · subst e
      rw [if_pos hq, ih, if_neg (by omega), if_pos (by omega)]
    · rw [hall x e, if_neg (by decide), ih]
      by_cases h : q < x
      · rw [if_pos h, if_pos (by omega)]
      · rw [if_neg h, if_neg (by omega)]
theorem cnt_mono {x y : Nat} (h : x ≤ y) : cntT B x ≤ cntT B y := by
  induction y with
  | zero => rw [show x = 0 by omega]; exact Nat.le_refl _
  | succ y ih =>
    by_cases e : x = y + 1
    · rw [e]; exact Nat.le_refl _
    · refine Nat.le_trans (ih (by omega)) ?_
      show cntT B y ≤ if B.getD y false = true then cntT B y + 1 else cntT B y
      split <;> omega
theorem cnt_two {j x : Nat} (hq : B.getD q false = true) (hj : B.getD j false = true) (h1 : q < j) (h2 : j < x) : 2 ≤ cntT B x := by
  have a : cntT B (q + 1) = cntT B q + 1 := if_pos hq
  have b : cntT B (j + 1) = cntT B j + 1 := if_pos hj
  have c := cnt_mono (B := B) (show q + 1 ≤ j by omega)
  have d := cnt_mono (B := B) (show j + 1 ≤ x by omega)
  omega
theorem flag_cnt (hq : q < B.length) (hqt : B.getD q false = true) (hqf : ∀ j, j < q → B.getD j false = false) :
    (!decide (0 ≤ firstI (fun i => (B.drop (q + 1)).getD i false) (B.drop (q + 1)).length)) = decide (cntT B B.length = 1) ∧
    (cntT B B.length = 1 → ∀ j, j ≠ q → B.getD j false = false) := by
  have hd : ∀ i, (B.drop (q + 1)).getD i false = B.getD (q + 1 + i) false := fun i => by
    rw [List.getD_eq_getElem?_getD, List.getD_eq_getElem?_getD, List.getElem?_drop]
  rw [firstI_any]
  have key : cntT B B.length = 1 → ∀ j, j ≠ q → B.getD j false = false := fun h1 j hj => by
    cases hb : B.getD j false with
    | false => rfl
    | true =>
      by_cases hlt : j < q
      · rw [hqf j hlt] at hb; cases hb
      · by_cases hjl : j < B.length
        · have := cnt_two hqt hb (by omega) hjl
          omega
        · rw [List.getD_eq_getElem?_getD, List.getElem?_eq_none (by omega)] at hb
          cases hb
  refine ⟨?_, key⟩
  by_cases h1 : cntT B B.length = 1
  · rw [decide_eq_true h1]
    have : ((List.range (B.drop (q + 1)).length).any fun i => (B.drop (q + 1)).getD i false) = false := by
      rw [List.any_eq_false]
      intro i _
      rw [hd, key h1 _ (by omega)]
      decide
    rw [this]; rfl
  · rw [decide_eq_false h1]
    have : ((List.range (B.drop (q + 1)).length).any fun i => (B.drop (q + 1)).getD i false) = true := by
      cases hb : ((List.range (B.drop (q + 1)).length).any fun i => (B.drop (q + 1)).getD i false) with
      | true => rfl
      | false =>
        rw [List.any_eq_false] at hb
        refine absurd ?_ h1
        rw [cnt_one (q := q) (fun j hj => ?_) hqt, if_pos hq]
        by_cases hlt : j < q
        · exact hqf j hlt
        · by_cases hjl : j < B.length
          · have := hb (j - (q + 1)) (List.mem_range.2 (by rw [List.length_drop]; omega))
            rw [hd, show q + 1 + (j - (q + 1)) = j by omega] at this
            simpa using this
          · rw [List.getD_eq_getElem?_getD, List.getElem?_eq_none (by omega)]; rfl
    rw [this]; rfl
end
structure OneC (m : List (List Rat)) (n b r : Nat) (l : List Nat) (p : Nat → Rat) : Prop where
  hr : r < n
  hl : l = cls n (wsh (edg m) n) r
  hc : clo n (wsh (edg m) n) r = true
  irr : Irr l.length (inQ m l)
  nd : l.Nodup
  lt : ∀ s ∈ l, s < n
  l0 : 0 < l.length
  ln : l.length ≤ n
  stat : Stat n (at2 m) p
  sum : sumF p n = 1
  pin : Stat l.length (inQ m l) fun c => p (l.getD c 0)
  psum : sumF (fun c => p (l.getD c 0)) l.length = 1
  pout : ∀ s, s ∉ l → p s = 0
  fz : ∀ i, i < n → Fz (p i) (szG (b + 9) l.length)
  fit : ∃ q, (shutL n (wsh (edg m) n) n).getD q false = true ∧ q < (shutL n (wsh (edg m) n) n).length ∧ (∀ j, j ≠ q → (shutL n (wsh (edg m) n) n).getD j false = false) ∧ (repL n (wsh (edg m) n) n).getD q [] = l
def oneB (m : List (List Rat)) : Bool := decide (cntT (shutL m.length (wsh (edg m) m.length) m.length) (shutL m.length (wsh (edg m) m.length) m.length).length = 1)
section
variable {b : Nat} {ys : List FV} {m : List (List Rat)}
theorem still_no (hF : FrM b ys m) (h1 : 1 ≤ b) (hb : b ≤ 1000) (hmx : m.length ≤ 140737488355328) (h0 : chkM m = 0) (ho : oneB m = false) :
    Good Tryd.prog 7 [.fz 1 ys] (.tup [frs [], I 13]) := by
  obtain ⟨hsq, hn1, hch⟩ := chk_sq hF h0
  obtain ⟨q, r, hr, hcr, hq, hqt, hqf, hqr⟩ := last_ex (n := m.length) (R := wsh (edg m) m.length) wsh_pre (by omega)
  have hlast := last_w (p := q) hF h1 (by omega) hmx h0 hq hqt hqf
  obtain ⟨hfc, hun⟩ := flag_cnt hq hqt hqf
  rw [hfc, show decide (cntT (shutL m.length (wsh (edg m) m.length) m.length) (shutL m.length (wsh (edg m) m.length) m.length).length = 1) = false from ho] at hlast
  exact still_many_w hF h1 (by omega) hmx h0 hlast
theorem still_yes (hF : FrM b ys m) (h1 : 1 ≤ b) (hb : b ≤ 1000) (hmx : m.length ≤ 140737488355328) (h0 : chkM m = 0) (ho : oneB m = true) :
    ∃ r l p, OneC m m.length b r l p ∧ Good Tryd.prog 7 [.fz 1 ys] (.tup [frs ((List.range m.length).map p), I 0]) := by
  obtain ⟨hsq, hn1, hch⟩ := chk_sq hF h0
  obtain ⟨n, hn⟩ : ∃ n, n = m.length := ⟨_, rfl⟩
  have hs : Sto n (at2 m) := sto_of hn (fun r hr => (hsq.sq r hr).trans hn.symm) hch
  obtain ⟨q, r, hr, hcr, hq, hqt, hqf, hqr⟩ := last_ex (n := m.length) (R := wsh (edg m) m.length) wsh_pre (by omega)
  have hlast := last_w (p := q) hF h1 (by omega) hmx h0 hq hqt hqf
  obtain ⟨hfc, hun⟩ := flag_cnt hq hqt hqf
  have hone : cntT (shutL m.length (wsh (edg m) m.length) m.length) (shutL m.length (wsh (edg m) m.length) m.length).length = 1 := of_decide_eq_true ho
  rw [hfc, decide_eq_true hone, hqr] at hlast
  have hall := hun hone
  have hn6 := hsq.le
  rw [← hn] at hr hcr hq hqt hqf hqr hlast hall hn6 ⊢
  obtain ⟨l, hl⟩ : ∃ l, l = cls n (wsh (edg m) n) r := ⟨_, rfl⟩
  rw [← hl] at hlast hqr
  have hlm : ∀ s ∈ l, s < n := fun s hs => by rw [hl] at hs; exact (cls_mem.1 hs).1
  have hnd : l.Nodup := by rw [hl]; exact cls_nodup
  have hl0 : 0 < l.length := List.length_pos_of_mem (by rw [hl]; exact cls_self wsh_pre hr)
  have hln : l.length ≤ n := nodup_le hnd hlm
  have hirr := irr_cls hs hr hcr
  rw [← hl] at hirr
  obtain ⟨y, hy, hys, hy1⟩ := wSol_spec hirr rfl hl0 hnd
  have hsl : (wSol m l).length = l.length := by rw [hy]; simp
  have hstill := still_one_w hF h1 (by omega) hmx h0 hlast hl0 (by omega) (by rw [← hn]; exact hlm) (by omega)
  rw [hsl, ← hn] at hstill
  have hsol : ∀ c, c < l.length → (wSol m l).getD c 0 = y c := fun c hc => by rw [hy]; simp [List.getD, hc]
  obtain ⟨p, hp⟩ : ∃ p, p = stF l (wSol m l) l.length := ⟨_, rfl⟩
  have hps : FV.fz 3 (stL n l (wSol m l) l.length) = frs ((List.range n).map p) := by unfold stL; rw [hp]; show _ = FV.fz 3 (((List.range n).map _).map fr); rw [List.map_map]; rfl
  rw [hps] at hstill
  have hwf : Row (szG (b + 9) l.length) (wSol m l) := wSol_fz (b := b) hsq h1 (by rw [← hn]; exact hlm)
  have hge := szG_ge (s := b + 9) l.length
  have hpc : ∀ c, c < l.length → p (l.getD c 0) = y c := fun c hc => by rw [hp, stF_at hnd (Nat.le_refl _) hc, hsol c hc]
  refine ⟨r, l, p, ⟨hr, hl, hcr, hirr, hnd, hlm, hl0, hln, by rw [hp]; exact stF_stat hs hr hcr hl hys hsol, by rw [hp, stF_sum hl hsol]; exact hy1, fun k hk => ?_, ?_, fun s hs => by rw [hp]; exact stF_out hs (Nat.le_refl _), fun i _ => by rw [hp]; exact stF_fz hwf (by omega) (by omega), q, hqt, hq, hall, hqr⟩, hstill⟩
  · show sumF (fun i => p (l.getD i 0) * inQ m l i k) l.length = p (l.getD k 0)
    rw [hpc k hk, ← hys k hk]
    exact sumF_congr fun i hi => by rw [hpc i hi]
  · rw [← hy1]; exact sumF_congr fun i hi => hpc i hi
theorem OneC.pos {n r : Nat} {l : List Nat} {p : Nat → Rat} (h : OneC m n b r l p) : ∀ s ∈ l, 0 < p s := fun s hs => by
  obtain ⟨c, hc, e⟩ := List.getElem_of_mem hs
  have := stat_pos h.irr h.pin h.psum c hc
  rw [lget_lt l 0 hc, e] at this
  exact this
theorem OneC.nonneg {n r : Nat} {l : List Nat} {p : Nat → Rat} (h : OneC m n b r l p) (s : Nat) : 0 ≤ p s := by
  by_cases hs : s ∈ l
  · exact Rat.le_of_lt (h.pos s hs)
  · rw [h.pout s hs]; exact Rat.le_refl
end
end Go.Proofs.YtcgagiimlkjcpaaDoor
