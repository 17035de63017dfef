/- The document's fractions (augurref), walked by the abstract machine. Conditions: none. -/
import Derived.Test.YtabmgfchkcmcmaaDoorZAmN
import Derived.Test.YtabmgfchkcmcmaaDoorZAmO
import Derived.Test.YtabmgfchkcmcmaaDoorZTi
import Derived.Test.YtabmgfchkcmcmaaDoorZRefOne
set_option linter.unusedVariables false
set_option linter.unusedSimpArgs false
namespace Go.Proofs.YtabmgfchkcmcmaaDoor
open Go Go.RowKit
abbrev Bo (b : Bool) : FV := .v (.bool b)
abbrev St (s : ByteArray) : FV := .v (.string s)
abbrev frR (g : Bool) (n d : ByteArray) : FV := .agg [Bo g, St n, St d]
theorem fr_frR (q : Rat) : fr q = frR (cg q) (cn q) (cd q) := rfl
theorem rtrim_good {s : ByteArray} (hs : s.size ≤ maxLen) : Good Tryd.prog 100 [St s] (St (ns (vn s))) :=
  good_calls (by kernel_rfl) rfl rfl fun w => (rtrim_any s w hs).mono fun e w' h => ⟨h.1, h.2 ▸ Below.refl _ _⟩
theorem rgcd_good {a b : ByteArray} (ha : a.size ≤ 137438953472) (hb : b.size ≤ 137438953472) : Good Tryd.prog 169 [St a, St b] (St (ns (Nat.gcd (vn a) (vn b)))) :=
  good_calls (by kernel_rfl) rfl rfl fun w => rgcd_any a b w ha hb
theorem rdiv_good {a b : ByteArray} (ha : a.size ≤ 137438953472) (hb : b.size ≤ 137438953472) (h0 : vn b ≠ 0) : Good Tryd.prog 170 [St a, St b] (.tup [St (ns (vn a / vn b)), St (ns (vn a % vn b)), Bo true]) :=
  good_calls (by kernel_rfl) rfl rfl fun w => rdiv_any a b w ha hb h0
theorem rmul_good {a b : ByteArray} (ha : a.size ≤ 137438953472) (hb : b.size ≤ 137438953472) : Good Tryd.prog 106 [St a, St b] (St (ns (vn a * vn b))) :=
  good_calls (by kernel_rfl) rfl rfl fun w => rmul_any a b w ha hb
theorem radd_good {a b : ByteArray} (ha : a.size ≤ 274877906944) (hb : b.size ≤ 274877906944) : Good Tryd.prog 109 [St a, St b] (St (ns (vn a + vn b))) :=
  good_calls (by kernel_rfl) rfl rfl fun w => radd_any a b w ha hb
theorem rof_good {n : Int} (h0 : -9223372036854775808 ≤ n) (hn : n ≤ 9223372036854775807) : Good Tryd.prog 108 [I n] (St (ns n.toNat)) :=
  good_calls (by kernel_rfl) rfl rfl fun w => rof_any n w hn h0
theorem ns_nil_iff {n : Nat} : (ns n = ⟨#[]⟩) = (n = 0) := propext ⟨fun h => by rw [← vn_ns n, h, vn_nil], fun h => by rw [h, ns_zero]⟩
theorem ns_one_iff {n : Nat} : (ns n = ⟨#[1]⟩) = (n = 1) := propext ⟨fun h => by rw [← vn_ns n, h, ← ns_one, vn_ns], fun h => by rw [h, ns_one]⟩
theorem fr_zero' : fr 0 = frR false ⟨#[]⟩ ⟨#[1]⟩ := by rw [fr_frR, cg_zero, cn_zero, cd_zero]
theorem fr_make {g : Bool} {n d : ByteArray} (hn : vn n ≠ 0) (hd : vn d ≠ 0) : fr (rv g n d) = frR g (ns (vn n / Nat.gcd (vn n) (vn d))) (ns (vn d / Nat.gcd (vn n) (vn d))) := by
  obtain ⟨h1, h2, h3⟩ := rv_make (neg := g) hn hd
  show frR _ _ _ = _
  unfold cg cn cd
  rw [h1, h2, h3]
set_option maxRecDepth 100000 in
theorem rmake_good (g : Bool) (n d : ByteArray) (hn : n.size ≤ 137438953472) (hd : d.size ≤ 137438953472) : Good Tryd.prog 107 [Bo g, St n, St d] (fr (rv g n d)) := by
  have z1 := ns_size_le n
  have z2 := ns_size_le d
  have m1 : n.size ≤ maxLen := by unfold maxLen; omega
  have m2 : d.size ≤ maxLen := by unfold maxLen; omega
  by_cases h0 : vn n = 0
  · rw [rv_zero (.inl h0), fr_zero']
    refine good_of Tryd.func107 rfl (by kernel_rfl) fun X hO => ?_; rw [Tryd.ntmps107, Tryd.results107]; simp only [ast0, List.map_cons, List.map_nil, List.length_cons, List.length_nil, Nat.reduceAdd, Nat.reduceSub, List.replicate_succ, List.replicate_zero, List.cons_append, List.nil_append]
    repeat (with_reducible first | refine W_seq fun K hK => ?_ | refine J_block ?_ | refine J_skip ?_ | refine J_exit ?_ | refine J_ret ?_ | refine J_region ?_ | refine J_drawn mixed (by kernel_rfl) ?_ | refine aApp_sl ?_ | refine aApp_old ?_ | (refine Kont.go (by assumption) ?_) | (simp (config := { maxSteps := 3000000 }) (disch := omega) only [go_sem, Nat.reduceEqDiff, ↓reduceIte, Nat.reduceAdd, Nat.reduceLT, Nat.reduceLeDiff, Int.reduceLT, Int.reduceLE, Int.reduceEq, Int.reduceNe, Int.reduceAdd, Int.reduceSub, Int.reduceMul, Int.reduceNeg, Int.reduceToNat]))
    refine call_f (rtrim_good m1) rfl ?_
    repeat (with_reducible first | refine W_seq fun K hK => ?_ | refine J_block ?_ | refine J_skip ?_ | refine J_exit ?_ | refine J_ret ?_ | refine J_region ?_ | refine J_drawn mixed (by kernel_rfl) ?_ | refine aApp_sl ?_ | refine aApp_old ?_ | (refine Kont.go (by assumption) ?_) | (simp (config := { maxSteps := 3000000 }) (disch := omega) only [go_sem, Nat.reduceEqDiff, ↓reduceIte, Nat.reduceAdd, Nat.reduceLT, Nat.reduceLeDiff, Int.reduceLT, Int.reduceLE, Int.reduceEq, Int.reduceNe, Int.reduceAdd, Int.reduceSub, Int.reduceMul, Int.reduceNeg, Int.reduceToNat]))
    refine call_f (rtrim_good m2) rfl ?_
    repeat (with_reducible first | refine W_seq fun K hK => ?_ | refine J_block ?_ | refine J_skip ?_ | refine J_exit ?_ | refine J_ret ?_ | refine J_region ?_ | refine J_drawn mixed (by kernel_rfl) ?_ | refine aApp_sl ?_ | refine aApp_old ?_ | (refine Kont.go (by assumption) ?_) | (simp (config := { maxSteps := 3000000 }) (disch := omega) only [go_sem, Nat.reduceEqDiff, ↓reduceIte, Nat.reduceAdd, Nat.reduceLT, Nat.reduceLeDiff, Int.reduceLT, Int.reduceLE, Int.reduceEq, Int.reduceNe, Int.reduceAdd, Int.reduceSub, Int.reduceMul, Int.reduceNeg, Int.reduceToNat, ns_nil_iff, h0]))
    refine W_true rfl ?_
    repeat (with_reducible first | refine W_seq fun K hK => ?_ | refine J_block ?_ | refine J_skip ?_ | refine J_exit ?_ | refine J_ret ?_ | refine J_region ?_ | refine J_drawn mixed (by kernel_rfl) ?_ | refine aApp_sl ?_ | refine aApp_old ?_ | (refine Kont.go (by assumption) ?_) | (simp (config := { maxSteps := 3000000 }) (disch := omega) only [go_sem, Nat.reduceEqDiff, ↓reduceIte, Nat.reduceAdd, Nat.reduceLT, Nat.reduceLeDiff, Int.reduceLT, Int.reduceLE, Int.reduceEq, Int.reduceNe, Int.reduceAdd, Int.reduceSub, Int.reduceMul, Int.reduceNeg, Int.reduceToNat]))
    exact Frz.f _
  by_cases h1 : vn d = 0
  · rw [rv_zero (.inr h1), fr_zero']
    refine good_of Tryd.func107 rfl (by kernel_rfl) fun X hO => ?_; rw [Tryd.ntmps107, Tryd.results107]; simp only [ast0, List.map_cons, List.map_nil, List.length_cons, List.length_nil, Nat.reduceAdd, Nat.reduceSub, List.replicate_succ, List.replicate_zero, List.cons_append, List.nil_append]
    repeat (with_reducible first | refine W_seq fun K hK => ?_ | refine J_block ?_ | refine J_skip ?_ | refine J_exit ?_ | refine J_ret ?_ | refine J_region ?_ | refine J_drawn mixed (by kernel_rfl) ?_ | refine aApp_sl ?_ | refine aApp_old ?_ | (refine Kont.go (by assumption) ?_) | (simp (config := { maxSteps := 3000000 }) (disch := omega) only [go_sem, Nat.reduceEqDiff, ↓reduceIte, Nat.reduceAdd, Nat.reduceLT, Nat.reduceLeDiff, Int.reduceLT, Int.reduceLE, Int.reduceEq, Int.reduceNe, Int.reduceAdd, Int.reduceSub, Int.reduceMul, Int.reduceNeg, Int.reduceToNat]))
    refine call_f (rtrim_good m1) rfl ?_
    repeat (with_reducible first | refine W_seq fun K hK => ?_ | refine J_block ?_ | refine J_skip ?_ | refine J_exit ?_ | refine J_ret ?_ | refine J_region ?_ | refine J_drawn mixed (by kernel_rfl) ?_ | refine aApp_sl ?_ | refine aApp_old ?_ | (refine Kont.go (by assumption) ?_) | (simp (config := { maxSteps := 3000000 }) (disch := omega) only [go_sem, Nat.reduceEqDiff, ↓reduceIte, Nat.reduceAdd, Nat.reduceLT, Nat.reduceLeDiff, Int.reduceLT, Int.reduceLE, Int.reduceEq, Int.reduceNe, Int.reduceAdd, Int.reduceSub, Int.reduceMul, Int.reduceNeg, Int.reduceToNat]))
    refine call_f (rtrim_good m2) rfl ?_
    repeat (with_reducible first | refine W_seq fun K hK => ?_ | refine J_block ?_ | refine J_skip ?_ | refine J_exit ?_ | refine J_ret ?_ | refine J_region ?_ | refine J_drawn mixed (by kernel_rfl) ?_ | refine aApp_sl ?_ | refine aApp_old ?_ | (refine Kont.go (by assumption) ?_) | (simp (config := { maxSteps := 3000000 }) (disch := omega) only [go_sem, Nat.reduceEqDiff, ↓reduceIte, Nat.reduceAdd, Nat.reduceLT, Nat.reduceLeDiff, Int.reduceLT, Int.reduceLE, Int.reduceEq, Int.reduceNe, Int.reduceAdd, Int.reduceSub, Int.reduceMul, Int.reduceNeg, Int.reduceToNat, ns_nil_iff, h0, h1]))
    refine W_true rfl ?_
    repeat (with_reducible first | refine W_seq fun K hK => ?_ | refine J_block ?_ | refine J_skip ?_ | refine J_exit ?_ | refine J_ret ?_ | refine J_region ?_ | refine J_drawn mixed (by kernel_rfl) ?_ | refine aApp_sl ?_ | refine aApp_old ?_ | (refine Kont.go (by assumption) ?_) | (simp (config := { maxSteps := 3000000 }) (disch := omega) only [go_sem, Nat.reduceEqDiff, ↓reduceIte, Nat.reduceAdd, Nat.reduceLT, Nat.reduceLeDiff, Int.reduceLT, Int.reduceLE, Int.reduceEq, Int.reduceNe, Int.reduceAdd, Int.reduceSub, Int.reduceMul, Int.reduceNeg, Int.reduceToNat]))
    exact Frz.f _
  · rw [fr_make h0 h1]
    refine good_of Tryd.func107 rfl (by kernel_rfl) fun X hO => ?_; rw [Tryd.ntmps107, Tryd.results107]; simp only [ast0, List.map_cons, List.map_nil, List.length_cons, List.length_nil, Nat.reduceAdd, Nat.reduceSub, List.replicate_succ, List.replicate_zero, List.cons_append, List.nil_append]
    repeat (with_reducible first | refine W_seq fun K hK => ?_ | refine J_block ?_ | refine J_skip ?_ | refine J_exit ?_ | refine J_ret ?_ | refine J_region ?_ | refine J_drawn mixed (by kernel_rfl) ?_ | refine aApp_sl ?_ | refine aApp_old ?_ | (refine Kont.go (by assumption) ?_) | (simp (config := { maxSteps := 3000000 }) (disch := omega) only [go_sem, Nat.reduceEqDiff, ↓reduceIte, Nat.reduceAdd, Nat.reduceLT, Nat.reduceLeDiff, Int.reduceLT, Int.reduceLE, Int.reduceEq, Int.reduceNe, Int.reduceAdd, Int.reduceSub, Int.reduceMul, Int.reduceNeg, Int.reduceToNat]))
    refine call_f (rtrim_good m1) rfl ?_
    repeat (with_reducible first | refine W_seq fun K hK => ?_ | refine J_block ?_ | refine J_skip ?_ | refine J_exit ?_ | refine J_ret ?_ | refine J_region ?_ | refine J_drawn mixed (by kernel_rfl) ?_ | refine aApp_sl ?_ | refine aApp_old ?_ | (refine Kont.go (by assumption) ?_) | (simp (config := { maxSteps := 3000000 }) (disch := omega) only [go_sem, Nat.reduceEqDiff, ↓reduceIte, Nat.reduceAdd, Nat.reduceLT, Nat.reduceLeDiff, Int.reduceLT, Int.reduceLE, Int.reduceEq, Int.reduceNe, Int.reduceAdd, Int.reduceSub, Int.reduceMul, Int.reduceNeg, Int.reduceToNat]))
    refine call_f (rtrim_good m2) rfl ?_
    repeat (with_reducible first | refine W_seq fun K hK => ?_ | refine J_block ?_ | refine J_skip ?_ | refine J_exit ?_ | refine J_ret ?_ | refine J_region ?_ | refine J_drawn mixed (by kernel_rfl) ?_ | refine aApp_sl ?_ | refine aApp_old ?_ | (refine Kont.go (by assumption) ?_) | (simp (config := { maxSteps := 3000000 }) (disch := omega) only [go_sem, Nat.reduceEqDiff, ↓reduceIte, Nat.reduceAdd, Nat.reduceLT, Nat.reduceLeDiff, Int.reduceLT, Int.reduceLE, Int.reduceEq, Int.reduceNe, Int.reduceAdd, Int.reduceSub, Int.reduceMul, Int.reduceNeg, Int.reduceToNat, ns_nil_iff, h0, h1]))
    refine W_false rfl ?_
    repeat (with_reducible first | refine W_seq fun K hK => ?_ | refine J_block ?_ | refine J_skip ?_ | refine J_exit ?_ | refine J_ret ?_ | refine J_region ?_ | refine J_drawn mixed (by kernel_rfl) ?_ | refine aApp_sl ?_ | refine aApp_old ?_ | (refine Kont.go (by assumption) ?_) | (simp (config := { maxSteps := 3000000 }) (disch := omega) only [go_sem, Nat.reduceEqDiff, ↓reduceIte, Nat.reduceAdd, Nat.reduceLT, Nat.reduceLeDiff, Int.reduceLT, Int.reduceLE, Int.reduceEq, Int.reduceNe, Int.reduceAdd, Int.reduceSub, Int.reduceMul, Int.reduceNeg, Int.reduceToNat]))
    refine call_f (rgcd_good (by omega) (by omega)) rfl ?_
    have hg0 : vn d = 0 → False := h1
    have hgp : Nat.gcd (vn n) (vn d) ≠ 0 := fun h => h0 (Nat.gcd_eq_zero_iff.1 h).1
    by_cases hg : Nat.gcd (vn n) (vn d) = 1
    · repeat (with_reducible first | refine W_seq fun K hK => ?_ | refine J_block ?_ | refine J_skip ?_ | refine J_exit ?_ | refine J_ret ?_ | refine J_region ?_ | refine J_drawn mixed (by kernel_rfl) ?_ | refine aApp_sl ?_ | refine aApp_old ?_ | (refine Kont.go (by assumption) ?_) | (simp (config := { maxSteps := 3000000 }) (disch := omega) only [go_sem, Nat.reduceEqDiff, ↓reduceIte, Nat.reduceAdd, Nat.reduceLT, Nat.reduceLeDiff, Int.reduceLT, Int.reduceLE, Int.reduceEq, Int.reduceNe, Int.reduceAdd, Int.reduceSub, Int.reduceMul, Int.reduceNeg, Int.reduceToNat, vn_ns, ns_one_iff, hg, Nat.div_one]))
      refine W_false rfl ?_
      repeat (with_reducible first | refine W_seq fun K hK => ?_ | refine J_block ?_ | refine J_skip ?_ | refine J_exit ?_ | refine J_ret ?_ | refine J_region ?_ | refine J_drawn mixed (by kernel_rfl) ?_ | refine aApp_sl ?_ | refine aApp_old ?_ | (refine Kont.go (by assumption) ?_) | (simp (config := { maxSteps := 3000000 }) (disch := omega) only [go_sem, Nat.reduceEqDiff, ↓reduceIte, Nat.reduceAdd, Nat.reduceLT, Nat.reduceLeDiff, Int.reduceLT, Int.reduceLE, Int.reduceEq, Int.reduceNe, Int.reduceAdd, Int.reduceSub, Int.reduceMul, Int.reduceNeg, Int.reduceToNat]))
      rw [hg, Nat.div_one, Nat.div_one]
      exact Frz.f _
    · have hsg := ns_size_le d
      have hgl : (ns (Nat.gcd (vn n) (vn d))).size ≤ (ns (vn d)).size := by
        rw [ns_size, ns_size]; exact nb_mono (Nat.le_of_dvd (by omega) (Nat.gcd_dvd_right _ _))
      have hgv : vn (ns (Nat.gcd (vn n) (vn d))) ≠ 0 := by rw [vn_ns]; exact hgp
      repeat (with_reducible first | refine W_seq fun K hK => ?_ | refine J_block ?_ | refine J_skip ?_ | refine J_exit ?_ | refine J_ret ?_ | refine J_region ?_ | refine J_drawn mixed (by kernel_rfl) ?_ | refine aApp_sl ?_ | refine aApp_old ?_ | (refine Kont.go (by assumption) ?_) | (simp (config := { maxSteps := 3000000 }) (disch := omega) only [go_sem, Nat.reduceEqDiff, ↓reduceIte, Nat.reduceAdd, Nat.reduceLT, Nat.reduceLeDiff, Int.reduceLT, Int.reduceLE, Int.reduceEq, Int.reduceNe, Int.reduceAdd, Int.reduceSub, Int.reduceMul, Int.reduceNeg, Int.reduceToNat, vn_ns, ns_one_iff, hg]))
      refine W_true rfl ?_
      repeat (with_reducible first | refine W_seq fun K hK => ?_ | refine J_block ?_ | refine J_skip ?_ | refine J_exit ?_ | refine J_ret ?_ | refine J_region ?_ | refine J_drawn mixed (by kernel_rfl) ?_ | refine aApp_sl ?_ | refine aApp_old ?_ | (refine Kont.go (by assumption) ?_) | (simp (config := { maxSteps := 3000000 }) (disch := omega) only [go_sem, Nat.reduceEqDiff, ↓reduceIte, Nat.reduceAdd, Nat.reduceLT, Nat.reduceLeDiff, Int.reduceLT, Int.reduceLE, Int.reduceEq, Int.reduceNe, Int.reduceAdd, Int.reduceSub, Int.reduceMul, Int.reduceNeg, Int.reduceToNat]))
      refine call_f (rdiv_good (by omega) (by omega) hgv) rfl ?_
      repeat (with_reducible first | refine W_seq fun K hK => ?_ | refine J_block ?_ | refine J_skip ?_ | refine J_exit ?_ | refine J_ret ?_ | refine J_region ?_ | refine J_drawn mixed (by kernel_rfl) ?_ | refine aApp_sl ?_ | refine aApp_old ?_ | (refine Kont.go (by assumption) ?_) | (simp (config := { maxSteps := 3000000 }) (disch := omega) only [go_sem, Nat.reduceEqDiff, ↓reduceIte, Nat.reduceAdd, Nat.reduceLT, Nat.reduceLeDiff, Int.reduceLT, Int.reduceLE, Int.reduceEq, Int.reduceNe, Int.reduceAdd, Int.reduceSub, Int.reduceMul, Int.reduceNeg, Int.reduceToNat, vn_ns]))
      refine call_f (rdiv_good (by omega) (by omega) hgv) rfl ?_
      repeat (with_reducible first | refine W_seq fun K hK => ?_ | refine J_block ?_ | refine J_skip ?_ | refine J_exit ?_ | refine J_ret ?_ | refine J_region ?_ | refine J_drawn mixed (by kernel_rfl) ?_ | refine aApp_sl ?_ | refine aApp_old ?_ | (refine Kont.go (by assumption) ?_) | (simp (config := { maxSteps := 3000000 }) (disch := omega) only [go_sem, Nat.reduceEqDiff, ↓reduceIte, Nat.reduceAdd, Nat.reduceLT, Nat.reduceLeDiff, Int.reduceLT, Int.reduceLE, Int.reduceEq, Int.reduceNe, Int.reduceAdd, Int.reduceSub, Int.reduceMul, Int.reduceNeg, Int.reduceToNat, vn_ns]))
      exact Frz.f _
set_option maxRecDepth 100000 in
theorem rcanon_good {g : Bool} {n d : ByteArray} {x : Rat} {k : Nat} (h : Is g n d x k) (hk : k ≤ 34359738368) : Good Tryd.prog 76 [frR g n d] (fr x) := by
  obtain ⟨hr, h1, h2⟩ := h
  refine good_of Tryd.func76 rfl (by kernel_rfl) fun X hO => ?_; rw [Tryd.ntmps76, Tryd.results76]; simp only [ast0, List.map_cons, List.map_nil, List.length_cons, List.length_nil, Nat.reduceAdd, Nat.reduceSub, List.replicate_succ, List.replicate_zero, List.cons_append, List.nil_append]
  repeat (with_reducible first | refine W_seq fun K hK => ?_ | refine J_block ?_ | refine J_skip ?_ | refine J_exit ?_ | refine J_ret ?_ | refine J_region ?_ | refine J_drawn mixed (by kernel_rfl) ?_ | refine aApp_sl ?_ | refine aApp_old ?_ | (refine Kont.go (by assumption) ?_) | (simp (config := { maxSteps := 3000000 }) (disch := omega) only [go_sem, Nat.reduceEqDiff, ↓reduceIte, Nat.reduceAdd, Nat.reduceLT, Nat.reduceLeDiff, Int.reduceLT, Int.reduceLE, Int.reduceEq, Int.reduceNe, Int.reduceAdd, Int.reduceSub, Int.reduceMul, Int.reduceNeg, Int.reduceToNat]))
  refine call_f (rmake_good g n d (by omega) (by omega)) rfl ?_
  rw [hr]
  repeat (with_reducible first | refine W_seq fun K hK => ?_ | refine J_block ?_ | refine J_skip ?_ | refine J_exit ?_ | refine J_ret ?_ | refine J_region ?_ | refine J_drawn mixed (by kernel_rfl) ?_ | refine aApp_sl ?_ | refine aApp_old ?_ | (refine Kont.go (by assumption) ?_) | (simp (config := { maxSteps := 3000000 }) (disch := omega) only [go_sem, Nat.reduceEqDiff, ↓reduceIte, Nat.reduceAdd, Nat.reduceLT, Nat.reduceLeDiff, Int.reduceLT, Int.reduceLE, Int.reduceEq, Int.reduceNe, Int.reduceAdd, Int.reduceSub, Int.reduceMul, Int.reduceNeg, Int.reduceToNat]))
  exact Frz.f _
set_option maxRecDepth 100000 in
theorem rof_frac {n : Int} (h0 : -9223372036854775808 ≤ n) (hn : n ≤ 9223372036854775807) : Good Tryd.prog 40 [I n] (fr (n : Rat)) := by
  by_cases h : n < 0
  · have e : n = (-(((-(n + 1)).toNat + 1 : Nat) : Int) : Int) := by omega
    have e2 : fr (n : Rat) = frR true (ns ((-(n + 1)).toNat + 1)) ⟨#[1]⟩ := by
      have := frv_negnat ((-(n + 1)).toNat + 1) (by omega)
      rw [← e] at this
      have h3 : fv (n : Rat) = agf true (ns ((-(n + 1)).toNat + 1)) ⟨#[1]⟩ := this
      unfold agf at h3
      injection h3 with h3
      injection h3 with h3
      injection h3 with a1 h3
      injection h3 with a2 h3
      injection h3 with a3 h3
      show frR _ _ _ = _
      injection a1 with a1
      injection a2 with a2
      injection a3 with a3
      rw [a1, a2, a3]
    rw [e2]
    refine good_of Tryd.func40 rfl (by kernel_rfl) fun X hO => ?_; rw [Tryd.ntmps40, Tryd.results40]; simp only [ast0, List.map_cons, List.map_nil, List.length_cons, List.length_nil, Nat.reduceAdd, Nat.reduceSub, List.replicate_succ, List.replicate_zero, List.cons_append, List.nil_append]
    repeat (with_reducible first | refine W_seq fun K hK => ?_ | refine J_block ?_ | refine J_skip ?_ | refine J_exit ?_ | refine J_ret ?_ | refine J_region ?_ | refine J_drawn mixed (by kernel_rfl) ?_ | refine aApp_sl ?_ | refine aApp_old ?_ | (refine Kont.go (by assumption) ?_) | (simp (config := { maxSteps := 3000000 }) (disch := omega) only [go_sem, Nat.reduceEqDiff, ↓reduceIte, Nat.reduceAdd, Nat.reduceLT, Nat.reduceLeDiff, Int.reduceLT, Int.reduceLE, Int.reduceEq, Int.reduceNe, Int.reduceAdd, Int.reduceSub, Int.reduceMul, Int.reduceNeg, Int.reduceToNat]))
    refine W_cond _ rfl (fun _ => ?_) (fun h9 => absurd h (of_decide_eq_false h9))
    repeat (with_reducible first | refine W_seq fun K hK => ?_ | refine J_block ?_ | refine J_skip ?_ | refine J_exit ?_ | refine J_ret ?_ | refine J_region ?_ | refine J_drawn mixed (by kernel_rfl) ?_ | refine aApp_sl ?_ | refine aApp_old ?_ | (refine Kont.go (by assumption) ?_) | (simp (config := { maxSteps := 3000000 }) (disch := omega) only [go_sem, Nat.reduceEqDiff, ↓reduceIte, Nat.reduceAdd, Nat.reduceLT, Nat.reduceLeDiff, Int.reduceLT, Int.reduceLE, Int.reduceEq, Int.reduceNe, Int.reduceAdd, Int.reduceSub, Int.reduceMul, Int.reduceNeg, Int.reduceToNat, Int.zero_sub]))
    refine call_f (rof_good (by omega) (by omega)) rfl ?_
    repeat (with_reducible first | refine W_seq fun K hK => ?_ | refine J_block ?_ | refine J_skip ?_ | refine J_exit ?_ | refine J_ret ?_ | refine J_region ?_ | refine J_drawn mixed (by kernel_rfl) ?_ | refine aApp_sl ?_ | refine aApp_old ?_ | (refine Kont.go (by assumption) ?_) | (simp (config := { maxSteps := 3000000 }) (disch := omega) only [go_sem, Nat.reduceEqDiff, ↓reduceIte, Nat.reduceAdd, Nat.reduceLT, Nat.reduceLeDiff, Int.reduceLT, Int.reduceLE, Int.reduceEq, Int.reduceNe, Int.reduceAdd, Int.reduceSub, Int.reduceMul, Int.reduceNeg, Int.reduceToNat]))
    refine call_f (radd_good (by have := ns_size_le8 (n := (-(n + 1)).toNat) (by omega); omega) (by decide)) rfl ?_
    have e3 : vn (ns (-(n + 1)).toNat) + vn ⟨#[1]⟩ = (-(n + 1)).toNat + 1 := by rw [vn_ns, ← ns_one, vn_ns]
    rw [e3]
    repeat (with_reducible first | refine W_seq fun K hK => ?_ | refine J_block ?_ | refine J_skip ?_ | refine J_exit ?_ | refine J_ret ?_ | refine J_region ?_ | refine J_drawn mixed (by kernel_rfl) ?_ | refine aApp_sl ?_ | refine aApp_old ?_ | (refine Kont.go (by assumption) ?_) | (simp (config := { maxSteps := 3000000 }) (disch := omega) only [go_sem, Nat.reduceEqDiff, ↓reduceIte, Nat.reduceAdd, Nat.reduceLT, Nat.reduceLeDiff, Int.reduceLT, Int.reduceLE, Int.reduceEq, Int.reduceNe, Int.reduceAdd, Int.reduceSub, Int.reduceMul, Int.reduceNeg, Int.reduceToNat]))
    exact Frz.f _
  · have e : n = ((n.toNat : Nat) : Int) := by omega
    have e2 : fr (n : Rat) = frR false (ns n.toNat) ⟨#[1]⟩ := by
      have := frv_nat n.toNat
      rw [← e] at this
      have h3 : fv (n : Rat) = agf false (ns n.toNat) ⟨#[1]⟩ := this
      unfold agf at h3
      injection h3 with h3
      injection h3 with h3
      injection h3 with a1 h3
      injection h3 with a2 h3
      injection h3 with a3 h3
      show frR _ _ _ = _
      injection a1 with a1
      injection a2 with a2
      injection a3 with a3
      rw [a1, a2, a3]
    rw [e2]
    refine good_of Tryd.func40 rfl (by kernel_rfl) fun X hO => ?_; rw [Tryd.ntmps40, Tryd.results40]; simp only [ast0, List.map_cons, List.map_nil, List.length_cons, List.length_nil, Nat.reduceAdd, Nat.reduceSub, List.replicate_succ, List.replicate_zero, List.cons_append, List.nil_append]
    repeat (with_reducible first | refine W_seq fun K hK => ?_ | refine J_block ?_ | refine J_skip ?_ | refine J_exit ?_ | refine J_ret ?_ | refine J_region ?_ | refine J_drawn mixed (by kernel_rfl) ?_ | refine aApp_sl ?_ | refine aApp_old ?_ | (refine Kont.go (by assumption) ?_) | (simp (config := { maxSteps := 3000000 }) (disch := omega) only [go_sem, Nat.reduceEqDiff, ↓reduceIte, Nat.reduceAdd, Nat.reduceLT, Nat.reduceLeDiff, Int.reduceLT, Int.reduceLE, Int.reduceEq, Int.reduceNe, Int.reduceAdd, Int.reduceSub, Int.reduceMul, Int.reduceNeg, Int.reduceToNat]))
    refine W_cond _ rfl (fun h9 => absurd (of_decide_eq_true h9) h) (fun _ => ?_)
    repeat (with_reducible first | refine W_seq fun K hK => ?_ | refine J_block ?_ | refine J_skip ?_ | refine J_exit ?_ | refine J_ret ?_ | refine J_region ?_ | refine J_drawn mixed (by kernel_rfl) ?_ | refine aApp_sl ?_ | refine aApp_old ?_ | (refine Kont.go (by assumption) ?_) | (simp (config := { maxSteps := 3000000 }) (disch := omega) only [go_sem, Nat.reduceEqDiff, ↓reduceIte, Nat.reduceAdd, Nat.reduceLT, Nat.reduceLeDiff, Int.reduceLT, Int.reduceLE, Int.reduceEq, Int.reduceNe, Int.reduceAdd, Int.reduceSub, Int.reduceMul, Int.reduceNeg, Int.reduceToNat]))
    refine call_f (rof_good (by omega) (by omega)) rfl ?_
    repeat (with_reducible first | refine W_seq fun K hK => ?_ | refine J_block ?_ | refine J_skip ?_ | refine J_exit ?_ | refine J_ret ?_ | refine J_region ?_ | refine J_drawn mixed (by kernel_rfl) ?_ | refine aApp_sl ?_ | refine aApp_old ?_ | (refine Kont.go (by assumption) ?_) | (simp (config := { maxSteps := 3000000 }) (disch := omega) only [go_sem, Nat.reduceEqDiff, ↓reduceIte, Nat.reduceAdd, Nat.reduceLT, Nat.reduceLeDiff, Int.reduceLT, Int.reduceLE, Int.reduceEq, Int.reduceNe, Int.reduceAdd, Int.reduceSub, Int.reduceMul, Int.reduceNeg, Int.reduceToNat]))
    exact Frz.f _
set_option maxRecDepth 100000 in
theorem rmulf_good {g g2 : Bool} {n d n2 d2 : ByteArray} {x y : Rat} {j k : Nat} (h : Is g n d x j) (h' : Is g2 n2 d2 y k) (h0 : 1 ≤ j) (h0' : 1 ≤ k) (hj : j ≤ 34359738368) (hk : k ≤ 34359738368) : Good Tryd.prog 39 [frR g n d, frR g2 n2 d2] (fr (x * y)) := by
  have f1 := Is.c (h.fz h0)
  have f2 := Is.c (h'.fz h0')
  obtain ⟨_, p1, p2⟩ := f1
  obtain ⟨_, q1, q2⟩ := f2
  have s1 := ((Sz.of (cn x)).mul (Sz.of (cn y))).str
  have s2 := ((Sz.of (cd x)).mul (Sz.of (cd y))).str
  have e : rv (cg x != cg y) (ns (vn (cn x) * vn (cn y))) (ns (vn (cd x) * vn (cd y))) = x * y := by rw [rv_ns, ← rv_mul, rv_c, rv_c]
  refine good_of Tryd.func39 rfl (by kernel_rfl) fun X hO => ?_; rw [Tryd.ntmps39, Tryd.results39]; simp only [ast0, List.map_cons, List.map_nil, List.length_cons, List.length_nil, Nat.reduceAdd, Nat.reduceSub, List.replicate_succ, List.replicate_zero, List.cons_append, List.nil_append]
  repeat (with_reducible first | refine W_seq fun K hK => ?_ | refine J_block ?_ | refine J_skip ?_ | refine J_exit ?_ | refine J_ret ?_ | refine J_region ?_ | refine J_drawn mixed (by kernel_rfl) ?_ | refine aApp_sl ?_ | refine aApp_old ?_ | (refine Kont.go (by assumption) ?_) | (simp (config := { maxSteps := 3000000 }) (disch := omega) only [go_sem, Nat.reduceEqDiff, ↓reduceIte, Nat.reduceAdd, Nat.reduceLT, Nat.reduceLeDiff, Int.reduceLT, Int.reduceLE, Int.reduceEq, Int.reduceNe, Int.reduceAdd, Int.reduceSub, Int.reduceMul, Int.reduceNeg, Int.reduceToNat]))
  refine call_f (rcanon_good h hj) rfl ?_
  repeat (with_reducible first | refine W_seq fun K hK => ?_ | refine J_block ?_ | refine J_skip ?_ | refine J_exit ?_ | refine J_ret ?_ | refine J_region ?_ | refine J_drawn mixed (by kernel_rfl) ?_ | refine aApp_sl ?_ | refine aApp_old ?_ | (refine Kont.go (by assumption) ?_) | (simp (config := { maxSteps := 3000000 }) (disch := omega) only [go_sem, Nat.reduceEqDiff, ↓reduceIte, Nat.reduceAdd, Nat.reduceLT, Nat.reduceLeDiff, Int.reduceLT, Int.reduceLE, Int.reduceEq, Int.reduceNe, Int.reduceAdd, Int.reduceSub, Int.reduceMul, Int.reduceNeg, Int.reduceToNat, fr_frR x]))
  refine call_f (rcanon_good h' hk) rfl ?_
  repeat (with_reducible first | refine W_seq fun K hK => ?_ | refine J_block ?_ | refine J_skip ?_ | refine J_exit ?_ | refine J_ret ?_ | refine J_region ?_ | refine J_drawn mixed (by kernel_rfl) ?_ | refine aApp_sl ?_ | refine aApp_old ?_ | (refine Kont.go (by assumption) ?_) | (simp (config := { maxSteps := 3000000 }) (disch := omega) only [go_sem, Nat.reduceEqDiff, ↓reduceIte, Nat.reduceAdd, Nat.reduceLT, Nat.reduceLeDiff, Int.reduceLT, Int.reduceLE, Int.reduceEq, Int.reduceNe, Int.reduceAdd, Int.reduceSub, Int.reduceMul, Int.reduceNeg, Int.reduceToNat, fr_frR y]))
  refine call_f (rmul_good (by omega) (by omega)) rfl ?_
  repeat (with_reducible first | refine W_seq fun K hK => ?_ | refine J_block ?_ | refine J_skip ?_ | refine J_exit ?_ | refine J_ret ?_ | refine J_region ?_ | refine J_drawn mixed (by kernel_rfl) ?_ | refine aApp_sl ?_ | refine aApp_old ?_ | (refine Kont.go (by assumption) ?_) | (simp (config := { maxSteps := 3000000 }) (disch := omega) only [go_sem, Nat.reduceEqDiff, ↓reduceIte, Nat.reduceAdd, Nat.reduceLT, Nat.reduceLeDiff, Int.reduceLT, Int.reduceLE, Int.reduceEq, Int.reduceNe, Int.reduceAdd, Int.reduceSub, Int.reduceMul, Int.reduceNeg, Int.reduceToNat]))
  refine call_f (rmul_good (by omega) (by omega)) rfl ?_
  repeat (with_reducible first | refine W_seq fun K hK => ?_ | refine J_block ?_ | refine J_skip ?_ | refine J_exit ?_ | refine J_ret ?_ | refine J_region ?_ | refine J_drawn mixed (by kernel_rfl) ?_ | refine aApp_sl ?_ | refine aApp_old ?_ | (refine Kont.go (by assumption) ?_) | (simp (config := { maxSteps := 3000000 }) (disch := omega) only [go_sem, Nat.reduceEqDiff, ↓reduceIte, Nat.reduceAdd, Nat.reduceLT, Nat.reduceLeDiff, Int.reduceLT, Int.reduceLE, Int.reduceEq, Int.reduceNe, Int.reduceAdd, Int.reduceSub, Int.reduceMul, Int.reduceNeg, Int.reduceToNat, bin_neb Tryd.underlying4]))
  refine call_f (rmake_good _ _ _ (by omega) (by omega)) rfl ?_
  have e9 : rv (!cg x == cg y) (ns (vn (cn x) * vn (cn y))) (ns (vn (cd x) * vn (cd y))) = x * y := e
  rw [e9]
  repeat (with_reducible first | refine W_seq fun K hK => ?_ | refine J_block ?_ | refine J_skip ?_ | refine J_exit ?_ | refine J_ret ?_ | refine J_region ?_ | refine J_drawn mixed (by kernel_rfl) ?_ | refine aApp_sl ?_ | refine aApp_old ?_ | (refine Kont.go (by assumption) ?_) | (simp (config := { maxSteps := 3000000 }) (disch := omega) only [go_sem, Nat.reduceEqDiff, ↓reduceIte, Nat.reduceAdd, Nat.reduceLT, Nat.reduceLeDiff, Int.reduceLT, Int.reduceLE, Int.reduceEq, Int.reduceNe, Int.reduceAdd, Int.reduceSub, Int.reduceMul, Int.reduceNeg, Int.reduceToNat]))
  exact Frz.f _
set_option maxRecDepth 100000 in
theorem rzero_good {g : Bool} {n d : ByteArray} {x : Rat} {k : Nat} (h : Is g n d x k) (hk : k ≤ 34359738368) : Good Tryd.prog 115 [frR g n d] (Bo (decide (x = 0))) := by
  have e : (cn x = ⟨#[]⟩) = (x = 0) := propext ⟨fun h => Classical.byContradiction fun h0 => cn_ne h0 (by rw [h]; rfl), fun h => by rw [h, cn_zero]⟩
  refine good_of Tryd.func115 rfl (by kernel_rfl) fun X hO => ?_; rw [Tryd.ntmps115, Tryd.results115]; simp only [ast0, List.map_cons, List.map_nil, List.length_cons, List.length_nil, Nat.reduceAdd, Nat.reduceSub, List.replicate_succ, List.replicate_zero, List.cons_append, List.nil_append]
  repeat (with_reducible first | refine W_seq fun K hK => ?_ | refine J_block ?_ | refine J_skip ?_ | refine J_exit ?_ | refine J_ret ?_ | refine J_region ?_ | refine J_drawn mixed (by kernel_rfl) ?_ | refine aApp_sl ?_ | refine aApp_old ?_ | (refine Kont.go (by assumption) ?_) | (simp (config := { maxSteps := 3000000 }) (disch := omega) only [go_sem, Nat.reduceEqDiff, ↓reduceIte, Nat.reduceAdd, Nat.reduceLT, Nat.reduceLeDiff, Int.reduceLT, Int.reduceLE, Int.reduceEq, Int.reduceNe, Int.reduceAdd, Int.reduceSub, Int.reduceMul, Int.reduceNeg, Int.reduceToNat]))
  refine call_f (rcanon_good h hk) rfl ?_
  repeat (with_reducible first | refine W_seq fun K hK => ?_ | refine J_block ?_ | refine J_skip ?_ | refine J_exit ?_ | refine J_ret ?_ | refine J_region ?_ | refine J_drawn mixed (by kernel_rfl) ?_ | refine aApp_sl ?_ | refine aApp_old ?_ | (refine Kont.go (by assumption) ?_) | (simp (config := { maxSteps := 3000000 }) (disch := omega) only [go_sem, Nat.reduceEqDiff, ↓reduceIte, Nat.reduceAdd, Nat.reduceLT, Nat.reduceLeDiff, Int.reduceLT, Int.reduceLE, Int.reduceEq, Int.reduceNe, Int.reduceAdd, Int.reduceSub, Int.reduceMul, Int.reduceNeg, Int.reduceToNat, fr_frR x, e]))
  exact Frz.f _
theorem fr_inv {y : Rat} (hy : y ≠ 0) {k : Nat} (h : Fz y k) : Is (cg y) (cd y) (cn y) y⁻¹ k := by
  obtain ⟨_, h1, h2⟩ := Is.c h
  exact ⟨rv_inv y hy, h2, h1⟩
set_option maxRecDepth 100000 in
theorem rdivf_good {g g2 : Bool} {n d n2 d2 : ByteArray} {x y : Rat} {j k : Nat} (h : Is g n d x j) (h' : Is g2 n2 d2 y k) (h0 : 1 ≤ j) (h0' : 1 ≤ k) (hj : j ≤ 34359738368) (hk : k ≤ 34359738368) (hy : y ≠ 0) : Good Tryd.prog 99 [frR g n d, frR g2 n2 d2] (.tup [fr (x / y), I 0]) := by
  refine good_of Tryd.func99 rfl (by kernel_rfl) fun X hO => ?_; rw [Tryd.ntmps99, Tryd.results99]; simp only [ast0, List.map_cons, List.map_nil, List.length_cons, List.length_nil, Nat.reduceAdd, Nat.reduceSub, List.replicate_succ, List.replicate_zero, List.cons_append, List.nil_append]
  repeat (with_reducible first | refine W_seq fun K hK => ?_ | refine J_block ?_ | refine J_skip ?_ | refine J_exit ?_ | refine J_ret ?_ | refine J_region ?_ | refine J_drawn mixed (by kernel_rfl) ?_ | refine aApp_sl ?_ | refine aApp_old ?_ | (refine Kont.go (by assumption) ?_) | (simp (config := { maxSteps := 3000000 }) (disch := omega) only [go_sem, Nat.reduceEqDiff, ↓reduceIte, Nat.reduceAdd, Nat.reduceLT, Nat.reduceLeDiff, Int.reduceLT, Int.reduceLE, Int.reduceEq, Int.reduceNe, Int.reduceAdd, Int.reduceSub, Int.reduceMul, Int.reduceNeg, Int.reduceToNat]))
  refine call_f (rzero_good h' hk) rfl ?_
  repeat (with_reducible first | refine W_seq fun K hK => ?_ | refine J_block ?_ | refine J_skip ?_ | refine J_exit ?_ | refine J_ret ?_ | refine J_region ?_ | refine J_drawn mixed (by kernel_rfl) ?_ | refine aApp_sl ?_ | refine aApp_old ?_ | (refine Kont.go (by assumption) ?_) | (simp (config := { maxSteps := 3000000 }) (disch := omega) only [go_sem, Nat.reduceEqDiff, ↓reduceIte, Nat.reduceAdd, Nat.reduceLT, Nat.reduceLeDiff, Int.reduceLT, Int.reduceLE, Int.reduceEq, Int.reduceNe, Int.reduceAdd, Int.reduceSub, Int.reduceMul, Int.reduceNeg, Int.reduceToNat, hy]))
  refine W_false rfl ?_
  repeat (with_reducible first | refine W_seq fun K hK => ?_ | refine J_block ?_ | refine J_skip ?_ | refine J_exit ?_ | refine J_ret ?_ | refine J_region ?_ | refine J_drawn mixed (by kernel_rfl) ?_ | refine aApp_sl ?_ | refine aApp_old ?_ | (refine Kont.go (by assumption) ?_) | (simp (config := { maxSteps := 3000000 }) (disch := omega) only [go_sem, Nat.reduceEqDiff, ↓reduceIte, Nat.reduceAdd, Nat.reduceLT, Nat.reduceLeDiff, Int.reduceLT, Int.reduceLE, Int.reduceEq, Int.reduceNe, Int.reduceAdd, Int.reduceSub, Int.reduceMul, Int.reduceNeg, Int.reduceToNat]))
  refine call_f (rcanon_good h' hk) rfl ?_
  repeat (with_reducible first | refine W_seq fun K hK => ?_ | refine J_block ?_ | refine J_skip ?_ | refine J_exit ?_ | refine J_ret ?_ | refine J_region ?_ | refine J_drawn mixed (by kernel_rfl) ?_ | refine aApp_sl ?_ | refine aApp_old ?_ | (refine Kont.go (by assumption) ?_) | (simp (config := { maxSteps := 3000000 }) (disch := omega) only [go_sem, Nat.reduceEqDiff, ↓reduceIte, Nat.reduceAdd, Nat.reduceLT, Nat.reduceLeDiff, Int.reduceLT, Int.reduceLE, Int.reduceEq, Int.reduceNe, Int.reduceAdd, Int.reduceSub, Int.reduceMul, Int.reduceNeg, Int.reduceToNat, fr_frR y]))
  refine call_f (rmulf_good h (fr_inv hy (h'.fz h0')) h0 h0' hj hk) rfl ?_
  rw [← Rat.div_def]
  repeat (with_reducible first | refine W_seq fun K hK => ?_ | refine J_block ?_ | refine J_skip ?_ | refine J_exit ?_ | refine J_ret ?_ | refine J_region ?_ | refine J_drawn mixed (by kernel_rfl) ?_ | refine aApp_sl ?_ | refine aApp_old ?_ | (refine Kont.go (by assumption) ?_) | (simp (config := { maxSteps := 3000000 }) (disch := omega) only [go_sem, Nat.reduceEqDiff, ↓reduceIte, Nat.reduceAdd, Nat.reduceLT, Nat.reduceLeDiff, Int.reduceLT, Int.reduceLE, Int.reduceEq, Int.reduceNe, Int.reduceAdd, Int.reduceSub, Int.reduceMul, Int.reduceNeg, Int.reduceToNat]))
  exact ⟨_, rfl, FrzL.fs [_, _]⟩
theorem num_zero_iff {x : Rat} : (cn x = ⟨#[]⟩) = (x = 0) := propext ⟨fun h => Classical.byContradiction fun h0 => cn_ne h0 (by rw [h]; rfl), fun h => by rw [h, cn_zero]⟩
end Go.Proofs.YtabmgfchkcmcmaaDoor
