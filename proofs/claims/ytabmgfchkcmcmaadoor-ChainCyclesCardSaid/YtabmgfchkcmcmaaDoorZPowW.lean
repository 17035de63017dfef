/- Powers of a chain: walked. Conditions: numbers of 1000 bytes each. -/
import Derived.Test.YtabmgfchkcmcmaaDoorZChaW
set_option linter.unusedVariables false
set_option linter.unusedSimpArgs false
namespace Go.Proofs.YtabmgfchkcmcmaaDoor
open Go Go.RowKit
set_option maxRecDepth 100000 in
theorem chone_w (b : Bool) : Good Tryd.prog 131 [Bo b] (I (if b = true then 1 else 0)) := by
  cases b with
  | true =>
    refine good_of Tryd.func131 rfl (by kernel_rfl) fun X hO => ?_; rw [Tryd.ntmps131, Tryd.results131]; simp only [ast0, List.map_cons, List.map_nil, List.length_cons, List.length_nil, Nat.reduceAdd, Nat.reduceSub, List.replicate_succ, List.replicate_zero, List.cons_append, List.nil_append]
    repeat (first | (with_reducible first | refine W_seq fun K hK => ?_ | refine J_block ?_ | refine J_skip ?_ | refine J_exit ?_ | refine J_ret ?_ | refine J_region ?_  | refine J_drawn mixed (by kernel_rfl) ?_ | refine aApp_sl ?_ | refine aApp_old ?_ | refine J_c ?_ | refine Jc_true ?_ | refine Jc_false ?_ | exact Frz.f _ | (refine Kont.go (by assumption) ?_) | (simp (config := { maxSteps := 3000000 }) (disch := omega) only [go_sem, Nat.reduceEqDiff, ↓reduceIte, Nat.reduceAdd, Nat.reduceLT, Nat.reduceLeDiff, Int.reduceLT, Int.reduceLE, Int.reduceEq, Int.reduceNe, Int.reduceAdd, Int.reduceSub, Int.reduceMul, Int.reduceNeg, Int.reduceToNat])) | refine And.intro (by omega) ?_ | refine And.intro (And.intro (by omega) (by omega)) ?_)
  | false =>
    refine good_of Tryd.func131 rfl (by kernel_rfl) fun X hO => ?_; rw [Tryd.ntmps131, Tryd.results131]; simp only [ast0, List.map_cons, List.map_nil, List.length_cons, List.length_nil, Nat.reduceAdd, Nat.reduceSub, List.replicate_succ, List.replicate_zero, List.cons_append, List.nil_append]
    repeat (first | (with_reducible first | refine W_seq fun K hK => ?_ | refine J_block ?_ | refine J_skip ?_ | refine J_exit ?_ | refine J_ret ?_ | refine J_region ?_  | refine J_drawn mixed (by kernel_rfl) ?_ | refine aApp_sl ?_ | refine aApp_old ?_ | refine J_c ?_ | refine Jc_true ?_ | refine Jc_false ?_ | exact Frz.f _ | (refine Kont.go (by assumption) ?_) | (simp (config := { maxSteps := 3000000 }) (disch := omega) only [go_sem, Nat.reduceEqDiff, ↓reduceIte, Nat.reduceAdd, Nat.reduceLT, Nat.reduceLeDiff, Int.reduceLT, Int.reduceLE, Int.reduceEq, Int.reduceNe, Int.reduceAdd, Int.reduceSub, Int.reduceMul, Int.reduceNeg, Int.reduceToNat])) | refine And.intro (by omega) ?_ | refine And.intro (And.intro (by omega) (by omega)) ?_)
section
variable {a b n : Nat} {xs ys : List FV} {A B : List (List Rat)}
end
def szP (k : Nat) : Nat → Nat
  | 0 => k + 8
  | j + 1 => 12 * szP k j + 14
structure PwI where
  j : Nat
  k : Nat
  d : Nat
  h : Nat
  hv : List FV
  hm : List (List Rat)
structure PwOk (s n k0 : Nat) (A : Mx) (x : PwI) : Prop where
  j5 : x.j ≤ 5
  kl : x.k < 2 ^ (5 - x.j)
  hk : x.d + x.k * x.h = k0
  sq : SqM (szP s x.j) x.hv x.hm
  ln : x.hm.length = n
  eq : EqM n (at2 x.hm) (powM n A x.h)
  dz : ∀ i k, i < n → k < n → Fz (powM n A x.d i k) (szP s x.j)
def idTo (i x : Nat) : List FV := (List.range x).map fun k => fr (idM i k)
theorem idTo_zero {i : Nat} : idTo i 0 = [] := rfl
attribute [go_sem] idTo_zero
theorem fillA_z {n k : Nat} {f : Nat → FV} {z : FV} (h : k < n) : (fillL n k f z).map AV.f = ((fillL n k f z).map AV.f).set k (.f z) := by
  rw [← List.map_set]
  congr 1
  apply List.ext_getElem?
  intro j
  by_cases e : j = k
  · subst e
    rw [List.getElem?_set_self (by rw [fill_len]; exact h), fill_get h, if_neg (by omega)]
  · rw [List.getElem?_set_ne (Ne.symm e)]
end Go.Proofs.YtabmgfchkcmcmaaDoor
