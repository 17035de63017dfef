/- The document's fractions (augurref), walked by the abstract machine. Conditions: none. -/
import Derived.Test.YtabmgfchkcmcmaaDoorYAmN
import Derived.Test.YtabmgfchkcmcmaaDoorYAmO
import Derived.Test.YtabmgfchkcmcmaaDoorYTi
import Derived.Test.YtabmgfchkcmcmaaDoorYRefOne
set_option linter.unusedVariables false
set_option linter.unusedSimpArgs false
namespace Go.Proofs.YtabmgfchkcmcmaaDoor
open Go Go.RowKit
abbrev Bo (b : Bool) : FV := .v (.bool b)
abbrev St (s : ByteArray) : FV := .v (.string s)
abbrev frR (g : Bool) (n d : ByteArray) : FV := .agg [Bo g, St n, St d]
theorem fr_frR (q : Rat) : fr q = frR (cg q) (cn q) (cd q) := rfl
theorem rtrim_good {s : ByteArray} (hs : s.size ≤ maxLen) : Good Tryd.prog 100 [St s] (St (ns (vn s))) :=
  good_calls (by kernel_rfl) rfl rfl fun w => (rtrim_any s w hs).mono fun e w' h => ⟨h.1, h.2 ▸ Below.refl _ _⟩
theorem rgcd_good {a b : ByteArray} (ha : a.size ≤ 137438953472) (hb : b.size ≤ 137438953472) : Good Tryd.prog 169 [St a, St b] (St (ns (Nat.gcd (vn a) (vn b)))) :=
  good_calls (by kernel_rfl) rfl rfl fun w => rgcd_any a b w ha hb
theorem rdiv_good {a b : ByteArray} (ha : a.size ≤ 137438953472) (hb : b.size ≤ 137438953472) (h0 : vn b ≠ 0) : Good Tryd.prog 170 [St a, St b] (.tup [St (ns (vn a / vn b)), St (ns (vn a % vn b)), Bo true]) :=
  good_calls (by kernel_rfl) rfl rfl fun w => rdiv_any a b w ha hb h0
theorem ns_nil_iff {n : Nat} : (ns n = ⟨#[]⟩) = (n = 0) := propext ⟨fun h => by rw [← vn_ns n, h, vn_nil], fun h => by rw [h, ns_zero]⟩
theorem ns_one_iff {n : Nat} : (ns n = ⟨#[1]⟩) = (n = 1) := propext ⟨fun h => by rw [← vn_ns n, h, ← ns_one, vn_ns], fun h => by rw [h, ns_one]⟩
theorem fr_zero' : fr 0 = frR false ⟨#[]⟩ ⟨#[1]⟩ := by rw [fr_frR, cg_zero, cn_zero, cd_zero]
theorem fr_make {g : Bool} {n d : ByteArray} (hn : vn n ≠ 0) (hd : vn d ≠ 0) : fr (rv g n d) = frR g (ns (vn n / Nat.gcd (vn n) (vn d))) (ns (vn d / Nat.gcd (vn n) (vn d))) := by
  obtain ⟨h1, h2, h3⟩ := rv_make (neg := g) hn hd
  show frR _ _ _ = _
  unfold cg cn cd
  rw [h1, h2, h3]
set_option maxRecDepth 100000 in
theorem rmake_good (g : Bool) (n d : ByteArray) (hn : n.size ≤ 137438953472) (hd : d.size ≤ 137438953472) : Good Tryd.prog 107 [Bo g, St n, St d] (fr (rv g n d)) := by
  have z1 := ns_size_le n
  have z2 := ns_size_le d
  have m1 : n.size ≤ maxLen := by unfold maxLen; omega
  have m2 : d.size ≤ maxLen := by unfold maxLen; omega
  by_cases h0 : vn n = 0
  · rw [rv_zero (.inl h0), fr_zero']
    refine good_of Tryd.func107 rfl (by kernel_rfl) fun X hO => ?_; rw [Tryd.ntmps107, Tryd.results107]; simp only [ast0, List.map_cons, List.map_nil, List.length_cons, List.length_nil, Nat.reduceAdd, Nat.reduceSub, List.replicate_succ, List.replicate_zero, List.cons_append, List.nil_append]
    repeat (with_reducible first | refine W_seq fun K hK => ?_ | refine J_block ?_ | refine J_skip ?_ | refine J_exit ?_ | refine J_ret ?_ | refine J_region ?_ | refine J_drawn mixed (by kernel_rfl) ?_ | refine aApp_sl ?_ | refine aApp_old ?_ | (refine Kont.go (by assumption) ?_) | (simp (config := { maxSteps := 3000000 }) (disch := omega) only [go_sem, Nat.reduceEqDiff, ↓reduceIte, Nat.reduceAdd, Nat.reduceLT, Nat.reduceLeDiff, Int.reduceLT, Int.reduceLE, Int.reduceEq, Int.reduceNe, Int.reduceAdd, Int.reduceSub, Int.reduceMul, Int.reduceNeg, Int.reduceToNat]))
    refine call_f (rtrim_good m1) rfl ?_
    repeat (with_reducible first | refine W_seq fun K hK => ?_ | refine J_block ?_ | refine J_skip ?_ | refine J_exit ?_ | refine J_ret ?_ | refine J_region ?_ | refine J_drawn mixed (by kernel_rfl) ?_ | refine aApp_sl ?_ | refine aApp_old ?_ | (refine Kont.go (by assumption) ?_) | (simp (config := { maxSteps := 3000000 }) (disch := omega) only [go_sem, Nat.reduceEqDiff, ↓reduceIte, Nat.reduceAdd, Nat.reduceLT, Nat.reduceLeDiff, Int.reduceLT, Int.reduceLE, Int.reduceEq, Int.reduceNe, Int.reduceAdd, Int.reduceSub, Int.reduceMul, Int.reduceNeg, Int.reduceToNat]))
    refine call_f (rtrim_good m2) rfl ?_
    repeat (with_reducible first | refine W_seq fun K hK => ?_ | refine J_block ?_ | refine J_skip ?_ | refine J_exit ?_ | refine J_ret ?_ | refine J_region ?_ | refine J_drawn mixed (by kernel_rfl) ?_ | refine aApp_sl ?_ | refine aApp_old ?_ | (refine Kont.go (by assumption) ?_) | (simp (config := { maxSteps := 3000000 }) (disch := omega) only [go_sem, Nat.reduceEqDiff, ↓reduceIte, Nat.reduceAdd, Nat.reduceLT, Nat.reduceLeDiff, Int.reduceLT, Int.reduceLE, Int.reduceEq, Int.reduceNe, Int.reduceAdd, Int.reduceSub, Int.reduceMul, Int.reduceNeg, Int.reduceToNat, ns_nil_iff, h0]))
    refine W_true rfl ?_
    repeat (with_reducible first | refine W_seq fun K hK => ?_ | refine J_block ?_ | refine J_skip ?_ | refine J_exit ?_ | refine J_ret ?_ | refine J_region ?_ | refine J_drawn mixed (by kernel_rfl) ?_ | refine aApp_sl ?_ | refine aApp_old ?_ | (refine Kont.go (by assumption) ?_) | (simp (config := { maxSteps := 3000000 }) (disch := omega) only [go_sem, Nat.reduceEqDiff, ↓reduceIte, Nat.reduceAdd, Nat.reduceLT, Nat.reduceLeDiff, Int.reduceLT, Int.reduceLE, Int.reduceEq, Int.reduceNe, Int.reduceAdd, Int.reduceSub, Int.reduceMul, Int.reduceNeg, Int.reduceToNat]))
    exact Frz.f _
  by_cases h1 : vn d = 0
  · rw [rv_zero (.inr h1), fr_zero']
    refine good_of Tryd.func107 rfl (by kernel_rfl) fun X hO => ?_; rw [Tryd.ntmps107, Tryd.results107]; simp only [ast0, List.map_cons, List.map_nil, List.length_cons, List.length_nil, Nat.reduceAdd, Nat.reduceSub, List.replicate_succ, List.replicate_zero, List.cons_append, List.nil_append]
    repeat (with_reducible first | refine W_seq fun K hK => ?_ | refine J_block ?_ | refine J_skip ?_ | refine J_exit ?_ | refine J_ret ?_ | refine J_region ?_ | refine J_drawn mixed (by kernel_rfl) ?_ | refine aApp_sl ?_ | refine aApp_old ?_ | (refine Kont.go (by assumption) ?_) | (simp (config := { maxSteps := 3000000 }) (disch := omega) only [go_sem, Nat.reduceEqDiff, ↓reduceIte, Nat.reduceAdd, Nat.reduceLT, Nat.reduceLeDiff, Int.reduceLT, Int.reduceLE, Int.reduceEq, Int.reduceNe, Int.reduceAdd, Int.reduceSub, Int.reduceMul, Int.reduceNeg, Int.reduceToNat]))
    refine call_f (rtrim_good m1) rfl ?_
    repeat (with_reducible first | refine W_seq fun K hK => ?_ | refine J_block ?_ | refine J_skip ?_ | refine J_exit ?_ | refine J_ret ?_ | refine J_region ?_ | refine J_drawn mixed (by kernel_rfl) ?_ | refine aApp_sl ?_ | refine aApp_old ?_ | (refine Kont.go (by assumption) ?_) | (simp (config := { maxSteps := 3000000 }) (disch := omega) only [go_sem, Nat.reduceEqDiff, ↓reduceIte, Nat.reduceAdd, Nat.reduceLT, Nat.reduceLeDiff, Int.reduceLT, Int.reduceLE, Int.reduceEq, Int.reduceNe, Int.reduceAdd, Int.reduceSub, Int.reduceMul, Int.reduceNeg, Int.reduceToNat]))
    refine call_f (rtrim_good m2) rfl ?_
    repeat (with_reducible first | refine W_seq fun K hK => ?_ | refine J_block ?_ | refine J_skip ?_ | refine J_exit ?_ | refine J_ret ?_ | refine J_region ?_ | refine J_drawn mixed (by kernel_rfl) ?_ | refine aApp_sl ?_ | refine aApp_old ?_ | (refine Kont.go (by assumption) ?_) | (simp (config := { maxSteps := 3000000 }) (disch := omega) only [go_sem, Nat.reduceEqDiff, ↓reduceIte, Nat.reduceAdd, Nat.reduceLT, Nat.reduceLeDiff, Int.reduceLT, Int.reduceLE, Int.reduceEq, Int.reduceNe, Int.reduceAdd, Int.reduceSub, Int.reduceMul, Int.reduceNeg, Int.reduceToNat, ns_nil_iff, h0, h1]))
    refine W_true rfl ?_
    repeat (with_reducible first | refine W_seq fun K hK => ?_ | refine J_block ?_ | refine J_skip ?_ | refine J_exit ?_ | refine J_ret ?_ | refine J_region ?_ | refine J_drawn mixed (by kernel_rfl) ?_ | refine aApp_sl ?_ | refine aApp_old ?_ | (refine Kont.go (by assumption) ?_) | (simp (config := { maxSteps := 3000000 }) (disch := omega) only [go_sem, Nat.reduceEqDiff, ↓reduceIte, Nat.reduceAdd, Nat.reduceLT, Nat.reduceLeDiff, Int.reduceLT, Int.reduceLE, Int.reduceEq, Int.reduceNe, Int.reduceAdd, Int.reduceSub, Int.reduceMul, Int.reduceNeg, Int.reduceToNat]))
    exact Frz.f _
  · rw [fr_make h0 h1]
    refine good_of Tryd.func107 rfl (by kernel_rfl) fun X hO => ?_; rw [Tryd.ntmps107, Tryd.results107]; simp only [ast0, List.map_cons, List.map_nil, List.length_cons, List.length_nil, Nat.reduceAdd, Nat.reduceSub, List.replicate_succ, List.replicate_zero, List.cons_append, List.nil_append]
    repeat (with_reducible first | refine W_seq fun K hK => ?_ | refine J_block ?_ | refine J_skip ?_ | refine J_exit ?_ | refine J_ret ?_ | refine J_region ?_ | refine J_drawn mixed (by kernel_rfl) ?_ | refine aApp_sl ?_ | refine aApp_old ?_ | (refine Kont.go (by assumption) ?_) | (simp (config := { maxSteps := 3000000 }) (disch := omega) only [go_sem, Nat.reduceEqDiff, ↓reduceIte, Nat.reduceAdd, Nat.reduceLT, Nat.reduceLeDiff, Int.reduceLT, Int.reduceLE, Int.reduceEq, Int.reduceNe, Int.reduceAdd, Int.reduceSub, Int.reduceMul, Int.reduceNeg, Int.reduceToNat]))
    refine call_f (rtrim_good m1) rfl ?_
    repeat (with_reducible first | refine W_seq fun K hK => ?_ | refine J_block ?_ | refine J_skip ?_ | refine J_exit ?_ | refine J_ret ?_ | refine J_region ?_ | refine J_drawn mixed (by kernel_rfl) ?_ | refine aApp_sl ?_ | refine aApp_old ?_ | (refine Kont.go (by assumption) ?_) | (simp (config := { maxSteps := 3000000 }) (disch := omega) only [go_sem, Nat.reduceEqDiff, ↓reduceIte, Nat.reduceAdd, Nat.reduceLT, Nat.reduceLeDiff, Int.reduceLT, Int.reduceLE, Int.reduceEq, Int.reduceNe, Int.reduceAdd, Int.reduceSub, Int.reduceMul, Int.reduceNeg, Int.reduceToNat]))
    refine call_f (rtrim_good m2) rfl ?_
    repeat (with_reducible first | refine W_seq fun K hK => ?_ | refine J_block ?_ | refine J_skip ?_ | refine J_exit ?_ | refine J_ret ?_ | refine J_region ?_ | refine J_drawn mixed (by kernel_rfl) ?_ | refine aApp_sl ?_ | refine aApp_old ?_ | (refine Kont.go (by assumption) ?_) | (simp (config := { maxSteps := 3000000 }) (disch := omega) only [go_sem, Nat.reduceEqDiff, ↓reduceIte, Nat.reduceAdd, Nat.reduceLT, Nat.reduceLeDiff, Int.reduceLT, Int.reduceLE, Int.reduceEq, Int.reduceNe, Int.reduceAdd, Int.reduceSub, Int.reduceMul, Int.reduceNeg, Int.reduceToNat, ns_nil_iff, h0, h1]))
    refine W_false rfl ?_
    repeat (with_reducible first | refine W_seq fun K hK => ?_ | refine J_block ?_ | refine J_skip ?_ | refine J_exit ?_ | refine J_ret ?_ | refine J_region ?_ | refine J_drawn mixed (by kernel_rfl) ?_ | refine aApp_sl ?_ | refine aApp_old ?_ | (refine Kont.go (by assumption) ?_) | (simp (config := { maxSteps := 3000000 }) (disch := omega) only [go_sem, Nat.reduceEqDiff, ↓reduceIte, Nat.reduceAdd, Nat.reduceLT, Nat.reduceLeDiff, Int.reduceLT, Int.reduceLE, Int.reduceEq, Int.reduceNe, Int.reduceAdd, Int.reduceSub, Int.reduceMul, Int.reduceNeg, Int.reduceToNat]))
    refine call_f (rgcd_good (by omega) (by omega)) rfl ?_
    have hg0 : vn d = 0 → False := h1
    have hgp : Nat.gcd (vn n) (vn d) ≠ 0 := fun h => h0 (Nat.gcd_eq_zero_iff.1 h).1
    by_cases hg : Nat.gcd (vn n) (vn d) = 1
    · repeat (with_reducible first | refine W_seq fun K hK => ?_ | refine J_block ?_ | refine J_skip ?_ | refine J_exit ?_ | refine J_ret ?_ | refine J_region ?_ | refine J_drawn mixed (by kernel_rfl) ?_ | refine aApp_sl ?_ | refine aApp_old ?_ | (refine Kont.go (by assumption) ?_) | (simp (config := { maxSteps := 3000000 }) (disch := omega) only [go_sem, Nat.reduceEqDiff, ↓reduceIte, Nat.reduceAdd, Nat.reduceLT, Nat.reduceLeDiff, Int.reduceLT, Int.reduceLE, Int.reduceEq, Int.reduceNe, Int.reduceAdd, Int.reduceSub, Int.reduceMul, Int.reduceNeg, Int.reduceToNat, vn_ns, ns_one_iff, hg, Nat.div_one]))
      refine W_false rfl ?_
      repeat (with_reducible first | refine W_seq fun K hK => ?_ | refine J_block ?_ | refine J_skip ?_ | refine J_exit ?_ | refine J_ret ?_ | refine J_region ?_ | refine J_drawn mixed (by kernel_rfl) ?_ | refine aApp_sl ?_ | refine aApp_old ?_ | (refine Kont.go (by assumption) ?_) | (simp (config := { maxSteps := 3000000 }) (disch := omega) only [go_sem, Nat.reduceEqDiff, ↓reduceIte, Nat.reduceAdd, Nat.reduceLT, Nat.reduceLeDiff, Int.reduceLT, Int.reduceLE, Int.reduceEq, Int.reduceNe, Int.reduceAdd, Int.reduceSub, Int.reduceMul, Int.reduceNeg, Int.reduceToNat]))
      rw [hg, Nat.div_one, Nat.div_one]
      exact Frz.f _
    · have hsg := ns_size_le d
      have hgl : (ns (Nat.gcd (vn n) (vn d))).size ≤ (ns (vn d)).size := by
        rw [ns_size, ns_size]; exact nb_mono (Nat.le_of_dvd (by omega) (Nat.gcd_dvd_right _ _))
      have hgv : vn (ns (Nat.gcd (vn n) (vn d))) ≠ 0 := by rw [vn_ns]; exact hgp
      repeat (with_reducible first | refine W_seq fun K hK => ?_ | refine J_block ?_ | refine J_skip ?_ | refine J_exit ?_ | refine J_ret ?_ | refine J_region ?_ | refine J_drawn mixed (by kernel_rfl) ?_ | refine aApp_sl ?_ | refine aApp_old ?_ | (refine Kont.go (by assumption) ?_) | (simp (config := { maxSteps := 3000000 }) (disch := omega) only [go_sem, Nat.reduceEqDiff, ↓reduceIte, Nat.reduceAdd, Nat.reduceLT, Nat.reduceLeDiff, Int.reduceLT, Int.reduceLE, Int.reduceEq, Int.reduceNe, Int.reduceAdd, Int.reduceSub, Int.reduceMul, Int.reduceNeg, Int.reduceToNat, vn_ns, ns_one_iff, hg]))
      refine W_true rfl ?_
      repeat (with_reducible first | refine W_seq fun K hK => ?_ | refine J_block ?_ | refine J_skip ?_ | refine J_exit ?_ | refine J_ret ?_ | refine J_region ?_ | refine J_drawn mixed (by kernel_rfl) ?_ | refine aApp_sl ?_ | refine aApp_old ?_ | (refine Kont.go (by assumption) ?_) | (simp (config := { maxSteps := 3000000 }) (disch := omega) only [go_sem, Nat.reduceEqDiff, ↓reduceIte, Nat.reduceAdd, Nat.reduceLT, Nat.reduceLeDiff, Int.reduceLT, Int.reduceLE, Int.reduceEq, Int.reduceNe, Int.reduceAdd, Int.reduceSub, Int.reduceMul, Int.reduceNeg, Int.reduceToNat]))
      refine call_f (rdiv_good (by omega) (by omega) hgv) rfl ?_
      repeat (with_reducible first | refine W_seq fun K hK => ?_ | refine J_block ?_ | refine J_skip ?_ | refine J_exit ?_ | refine J_ret ?_ | refine J_region ?_ | refine J_drawn mixed (by kernel_rfl) ?_ | refine aApp_sl ?_ | refine aApp_old ?_ | (refine Kont.go (by assumption) ?_) | (simp (config := { maxSteps := 3000000 }) (disch := omega) only [go_sem, Nat.reduceEqDiff, ↓reduceIte, Nat.reduceAdd, Nat.reduceLT, Nat.reduceLeDiff, Int.reduceLT, Int.reduceLE, Int.reduceEq, Int.reduceNe, Int.reduceAdd, Int.reduceSub, Int.reduceMul, Int.reduceNeg, Int.reduceToNat, vn_ns]))
      refine call_f (rdiv_good (by omega) (by omega) hgv) rfl ?_
      repeat (with_reducible first | refine W_seq fun K hK => ?_ | refine J_block ?_ | refine J_skip ?_ | refine J_exit ?_ | refine J_ret ?_ | refine J_region ?_ | refine J_drawn mixed (by kernel_rfl) ?_ | refine aApp_sl ?_ | refine aApp_old ?_ | (refine Kont.go (by assumption) ?_) | (simp (config := { maxSteps := 3000000 }) (disch := omega) only [go_sem, Nat.reduceEqDiff, ↓reduceIte, Nat.reduceAdd, Nat.reduceLT, Nat.reduceLeDiff, Int.reduceLT, Int.reduceLE, Int.reduceEq, Int.reduceNe, Int.reduceAdd, Int.reduceSub, Int.reduceMul, Int.reduceNeg, Int.reduceToNat, vn_ns]))
      exact Frz.f _
set_option maxRecDepth 100000 in
theorem rcanon_good {g : Bool} {n d : ByteArray} {x : Rat} {k : Nat} (h : Is g n d x k) (hk : k ≤ 34359738368) : Good Tryd.prog 76 [frR g n d] (fr x) := by
  obtain ⟨hr, h1, h2⟩ := h
  refine good_of Tryd.func76 rfl (by kernel_rfl) fun X hO => ?_; rw [Tryd.ntmps76, Tryd.results76]; simp only [ast0, List.map_cons, List.map_nil, List.length_cons, List.length_nil, Nat.reduceAdd, Nat.reduceSub, List.replicate_succ, List.replicate_zero, List.cons_append, List.nil_append]
  repeat (with_reducible first | refine W_seq fun K hK => ?_ | refine J_block ?_ | refine J_skip ?_ | refine J_exit ?_ | refine J_ret ?_ | refine J_region ?_ | refine J_drawn mixed (by kernel_rfl) ?_ | refine aApp_sl ?_ | refine aApp_old ?_ | (refine Kont.go (by assumption) ?_) | (simp (config := { maxSteps := 3000000 }) (disch := omega) only [go_sem, Nat.reduceEqDiff, ↓reduceIte, Nat.reduceAdd, Nat.reduceLT, Nat.reduceLeDiff, Int.reduceLT, Int.reduceLE, Int.reduceEq, Int.reduceNe, Int.reduceAdd, Int.reduceSub, Int.reduceMul, Int.reduceNeg, Int.reduceToNat]))
  refine call_f (rmake_good g n d (by omega) (by omega)) rfl ?_
  rw [hr]
  repeat (with_reducible first | refine W_seq fun K hK => ?_ | refine J_block ?_ | refine J_skip ?_ | refine J_exit ?_ | refine J_ret ?_ | refine J_region ?_ | refine J_drawn mixed (by kernel_rfl) ?_ | refine aApp_sl ?_ | refine aApp_old ?_ | (refine Kont.go (by assumption) ?_) | (simp (config := { maxSteps := 3000000 }) (disch := omega) only [go_sem, Nat.reduceEqDiff, ↓reduceIte, Nat.reduceAdd, Nat.reduceLT, Nat.reduceLeDiff, Int.reduceLT, Int.reduceLE, Int.reduceEq, Int.reduceNe, Int.reduceAdd, Int.reduceSub, Int.reduceMul, Int.reduceNeg, Int.reduceToNat]))
  exact Frz.f _
end Go.Proofs.YtabmgfchkcmcmaaDoor
