/- Chains: a step, products, powers: walked. Conditions: numbers of 10^7 bytes each. -/
import Derived.Test.YtabmgfchkcmcmaaDoorZPowL
import Derived.Test.YtabmgfchkcmcmaaDoorZChk
import Derived.Test.YtabmgfchkcmcmaaDoorZDyn
set_option linter.unusedVariables false
set_option linter.unusedSimpArgs false
namespace Go.Proofs.YtabmgfchkcmcmaaDoor
open Go Go.RowKit
theorem sumF_fz {f : Nat → Rat} {s : Nat} : ∀ {n : Nat}, (∀ k, k < n → Fz (f k) s) → Fz (sumF f n) (8 + n * (s + 1)) := by
  intro n
  induction n with
  | zero => intro _; exact (Fz.int (n := 0) (by decide)).up (by omega)
  | succ n ih => intro h; exact ((ih fun k hk => h k (by omega)).add (h n (by omega))).up (by rw [Nat.add_mul]; omega)
theorem Row.getD {k : Nat} {l : List Rat} (h : Row k l) {i : Nat} (hi : i < l.length) : Fz (l.getD i 0) k := by rw [lget_lt l 0 hi]; exact h.get hi
structure SqM (k : Nat) (ys : List FV) (m : List (List Rat)) : Prop where
  fr : FrM k ys m
  sq : ∀ r ∈ m, List.length r = m.length
  le : m.length ≤ 6
section
variable {a b : Nat} {ps ys : List FV} {p : List Rat} {m : List (List Rat)} {i j : Nat}
theorem SqM.e2 (h : SqM b ys m) (hi : i < m.length) (hj : j < m.length) : at2 m i j = (m[i]'hi)[j]'(by rw [h.sq _ (List.getElem_mem hi)]; exact hj) := by unfold at2; rw [lget_lt m [] hi, lget_lt _ 0]
theorem SqM.at2 (h : SqM b ys m) (hi : i < m.length) (hj : j < m.length) : ∃ xs g n d, ys[i]? = some (.fz 3 xs) ∧ xs[j]? = some (frR g n d) ∧ IsFr (frR g n d) (at2 m i j) b := by
  obtain ⟨xs, h1, h2⟩ := h.fr.at hi
  obtain ⟨g, n, d, h3, h4⟩ := h2.at3 (i := j) (by rw [h.sq _ (List.getElem_mem hi)]; exact hj)
  exact ⟨xs, g, n, d, h1, h3, by rw [h.e2 hi hj]; exact h4⟩
theorem SqM.f2 (h : SqM b ys m) (h1 : 1 ≤ b) (hi : i < m.length) (hj : j < m.length) : Fz (Go.Proofs.YtabmgfchkcmcmaaDoor.at2 m i j) b := by
  obtain ⟨xs, g, n, d, _, _, h4⟩ := h.at2 hi hj
  exact h4.fz h1
theorem SqM.c {A : Mx} {n : Nat} (hn : n ≤ 6) (h : ∀ i k, i < n → k < n → Fz (A i k) b) : SqM b ((mxL n A).map frs) (mxL n A) where
  fr := FrM.c fun r hr => by
    obtain ⟨i, hi, rfl⟩ := List.mem_map.1 hr
    intro q hq
    obtain ⟨k, hk, rfl⟩ := List.mem_map.1 hq
    exact h i k (List.mem_range.1 hi) (List.mem_range.1 hk)
  sq := fun r hr => by rw [mxL_len]; exact mxL_row r hr
  le := by rw [mxL_len]; exact hn
theorem SqM.up (h : SqM a ys m) (hab : a ≤ b) : SqM b ys m := ⟨⟨h.fr.len, fun i r hr => by obtain ⟨xs, h1, h2⟩ := h.fr.get i r hr; exact ⟨xs, h1, h2.up hab⟩⟩, h.sq, h.le⟩
theorem chk_sq (hm : FrM b ys m) (h : chkM m = 0) : SqM b ys m ∧ 1 ≤ m.length ∧ ∀ r ∈ m, chancesB r = true := by
  unfold chkM at h
  split at h
  · cases h
  unfold sqM at h
  split at h
  · cases h
  split at h
  · cases h
  rename_i a b c
  exact ⟨⟨hm, Classical.not_not.1 b, by omega⟩, by omega, Classical.not_not.1 c⟩
end
end Go.Proofs.YtabmgfchkcmcmaaDoor
