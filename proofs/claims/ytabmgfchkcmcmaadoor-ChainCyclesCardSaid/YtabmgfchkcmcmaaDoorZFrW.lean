/- Fractions as they are told, lists and rows of such: what each call of the program and of the document gives. Conditions: parts within 2^35 bytes. -/
import Derived.Test.YtabmgfchkcmcmaaDoorZFrA
set_option linter.unusedVariables false
set_option linter.unusedSimpArgs false
namespace Go.Proofs.YtabmgfchkcmcmaaDoor
open Go Go.RowKit
def IsFr (x : FV) (q : Rat) (k : Nat) : Prop := ∃ g n d, x = frR g n d ∧ Is g n d q k
theorem IsFr.c {q : Rat} {k : Nat} (h : Fz q k) : IsFr (fr q) q k := ⟨_, _, _, fr_frR q, Is.c h⟩
theorem IsFr.up {x : FV} {q : Rat} {j k : Nat} (h : IsFr x q j) (hk : j ≤ k) : IsFr x q k := by obtain ⟨g, n, d, e, h⟩ := h; exact ⟨g, n, d, e, h.up hk⟩
theorem IsFr.fz {x : FV} {q : Rat} {k : Nat} (h : IsFr x q k) (hk : 1 ≤ k) : Fz q k := by obtain ⟨g, n, d, e, h⟩ := h; exact h.fz hk
theorem IsFr.int {n : Int} (h0 : -9223372036854775808 ≤ n) (h1 : n ≤ 9223372036854775807) : IsFr (fr (n : Rat)) (n : Rat) 8 := .c (Fz.int (by omega))
section
variable {x y : FV} {a b : Rat} {j k : Nat}
theorem add_w (ha : IsFr x a j) (hb : IsFr y b k) (hj : j ≤ 34359738368) (hk : k ≤ 34359738368) : Good Tryd.prog 103 [x, y] (fr (a + b)) := by
  obtain ⟨g, n, d, rfl, ha⟩ := ha
  obtain ⟨g', n', d', rfl, hb⟩ := hb
  exact good_calls (by kernel_rfl) rfl rfl fun w => fadd_g (ha.up (k := 34359738368) hj) (hb.up (k := 34359738368) hk) (by omega) (by omega) rfl w
theorem sub_w (ha : IsFr x a j) (hb : IsFr y b k) (hj : j ≤ 34359738368) (hk : k ≤ 34359738368) : Good Tryd.prog 112 [x, y] (fr (a - b)) := by
  obtain ⟨g, n, d, rfl, ha⟩ := ha
  obtain ⟨g', n', d', rfl, hb⟩ := hb
  exact good_calls (by kernel_rfl) rfl rfl fun w => fsub_g (ha.up (k := 34359738368) hj) (hb.up (k := 34359738368) hk) (by omega) (by omega) rfl w
theorem mul_w (ha : IsFr x a j) (hb : IsFr y b k) (hj : j ≤ 34359738368) (hk : k ≤ 34359738368) : Good Tryd.prog 105 [x, y] (fr (a * b)) := by
  obtain ⟨g, n, d, rfl, ha⟩ := ha
  obtain ⟨g', n', d', rfl, hb⟩ := hb
  exact good_calls (by kernel_rfl) rfl rfl fun w => fmul_g (ha.up (k := 34359738368) hj) (hb.up (k := 34359738368) hk) (by omega) (by omega) rfl w
theorem cmp_w (ha : IsFr x a j) (hb : IsFr y b k) (hj : j ≤ 34359738368) (hk : k ≤ 34359738368) : Good Tryd.prog 104 [x, y] (I (cmpR a b)) := by
  obtain ⟨g, n, d, rfl, ha⟩ := ha
  obtain ⟨g', n', d', rfl, hb⟩ := hb
  exact good_calls (by kernel_rfl) rfl rfl fun w => fcmp_g (ha.up (k := 34359738368) hj) (hb.up (k := 34359738368) hk) (by omega) (by omega) rfl w
abbrev frN : FV := frR false ⟨#[]⟩ ⟨#[]⟩
theorem div_w (ha : IsFr x a j) (hb : IsFr y b k) (hj : j ≤ 34359738368) (hk : k ≤ 34359738368) (h0 : b ≠ 0) : Good Tryd.prog 172 [x, y] (.tup [fr (a / b), I 0]) := by
  obtain ⟨g, n, d, rfl, ha⟩ := ha
  obtain ⟨g', n', d', rfl, hb⟩ := hb
  exact good_calls (by kernel_rfl) rfl rfl fun w => fdiv_g (ha.up (k := 34359738368) hj) (hb.up (k := 34359738368) hk) (by omega) (by omega) h0 rfl w
theorem radd_w (ha : IsFr x a j) (hb : IsFr y b k) (hj : j ≤ 34359738368) (hk : k ≤ 34359738368) : Good Tryd.prog 51 [x, y] (fr (a + b)) := by
  obtain ⟨g, n, d, rfl, ha⟩ := ha
  obtain ⟨g', n', d', rfl, hb⟩ := hb
  exact raddf_good (ha.up (k := 34359738368) hj) (hb.up (k := 34359738368) hk) (by omega) (by omega) (by omega) (by omega)
theorem rmul_w (ha : IsFr x a j) (hb : IsFr y b k) (hj : j ≤ 34359738368) (hk : k ≤ 34359738368) : Good Tryd.prog 39 [x, y] (fr (a * b)) := by
  obtain ⟨g, n, d, rfl, ha⟩ := ha
  obtain ⟨g', n', d', rfl, hb⟩ := hb
  exact rmulf_good (ha.up (k := 34359738368) hj) (hb.up (k := 34359738368) hk) (by omega) (by omega) (by omega) (by omega)
theorem rdiv_w (ha : IsFr x a j) (hb : IsFr y b k) (hj : j ≤ 34359738368) (hk : k ≤ 34359738368) (h0 : b ≠ 0) : Good Tryd.prog 99 [x, y] (.tup [fr (a / b), I 0]) := by
  obtain ⟨g, n, d, rfl, ha⟩ := ha
  obtain ⟨g', n', d', rfl, hb⟩ := hb
  exact rdivf_good (ha.up (k := 34359738368) hj) (hb.up (k := 34359738368) hk) (by omega) (by omega) (by omega) (by omega) h0
theorem rcmp_w (ha : IsFr x a j) (hb : IsFr y b k) (hj : j ≤ 34359738368) (hk : k ≤ 34359738368) : Good Tryd.prog 54 [x, y] (I (cmpR a b)) := by
  obtain ⟨g, n, d, rfl, ha⟩ := ha
  obtain ⟨g', n', d', rfl, hb⟩ := hb
  exact rcmpf_good (ha.up (k := 34359738368) hj) (hb.up (k := 34359738368) hk) (by omega) (by omega) (by omega) (by omega)
end
structure Frs (k : Nat) (xs : List FV) (l : List Rat) : Prop where
  len : xs.length = l.length
  get : ∀ (i : Nat) q, l[i]? = some q → ∃ x, xs[i]? = some x ∧ IsFr x q k
structure FrM (k : Nat) (ys : List FV) (m : List (List Rat)) : Prop where
  len : ys.length = m.length
  get : ∀ (i : Nat) r, m[i]? = some r → ∃ xs, ys[i]? = some (.fz 3 xs) ∧ Frs k xs r
def Row (k : Nat) (l : List Rat) : Prop := ∀ q ∈ l, Fz q k
theorem Row.get {k : Nat} {l : List Rat} (h : Row k l) {i : Nat} (hi : i < l.length) : Fz l[i] k := h _ (List.getElem_mem hi)
theorem Frs.c {k : Nat} {l : List Rat} (h : Row k l) : Frs k (l.map fr) l := ⟨by simp, fun i q hq => ⟨fr q, by rw [List.getElem?_map, hq]; rfl, .c (h q (List.mem_of_getElem? hq))⟩⟩
theorem FrM.c {k : Nat} {m : List (List Rat)} (h : ∀ r ∈ m, Row k r) : FrM k (m.map frs) m := ⟨by simp, fun i r hr => ⟨r.map fr, by rw [List.getElem?_map, hr]; rfl, .c (h r (List.mem_of_getElem? hr))⟩⟩
theorem Frs.at {k : Nat} {xs : List FV} {l : List Rat} (h : Frs k xs l) {i : Nat} (hi : i < l.length) : ∃ x, xs[i]? = some x ∧ IsFr x l[i] k := h.get i _ (List.getElem?_eq_getElem hi)
theorem Frs.at3 {k : Nat} {xs : List FV} {l : List Rat} (h : Frs k xs l) {i : Nat} (hi : i < l.length) : ∃ g n d, xs[i]? = some (frR g n d) ∧ IsFr (frR g n d) l[i] k := by
  obtain ⟨x, hx, g, n, d, rfl, hk⟩ := h.at hi
  exact ⟨g, n, d, hx, g, n, d, rfl, hk⟩
theorem FrM.at {k : Nat} {ys : List FV} {m : List (List Rat)} (h : FrM k ys m) {i : Nat} (hi : i < m.length) : ∃ xs, ys[i]? = some (.fz 3 xs) ∧ Frs k xs m[i] := h.get i _ (List.getElem?_eq_getElem hi)
theorem Frs.up {j k : Nat} {xs : List FV} {l : List Rat} (h : Frs j xs l) (hk : j ≤ k) : Frs k xs l := ⟨h.len, fun i q hq => by obtain ⟨x, h1, h2⟩ := h.get i q hq; exact ⟨x, h1, h2.up hk⟩⟩
theorem Frs.row {k : Nat} {xs : List FV} {l : List Rat} (h : Frs k xs l) (hk : 1 ≤ k) : Row k l := fun q hq => by
  obtain ⟨i, hi⟩ := List.getElem?_of_mem hq
  obtain ⟨x, _, h2⟩ := h.get i q hi
  exact h2.fz hk
theorem cmpR_lt {a b : Rat} : (cmpR a b < 0) ↔ a < b := by
  unfold cmpR
  by_cases h : a = b
  · rw [if_pos h]; subst h; exact ⟨fun h => by omega, fun h => absurd h Rat.lt_irrefl⟩
  · rw [if_neg h]
    by_cases h2 : a < b
    · rw [if_pos h2]; exact ⟨fun _ => h2, fun _ => by omega⟩
    · rw [if_neg h2]; exact ⟨fun h => by omega, fun h => absurd h h2⟩
theorem cmpR_gt {a b : Rat} : (0 < cmpR a b) ↔ b < a := by
  have h1 := cmpR_swap a b
  have h2 := cmpR_lt (a := b) (b := a)
  constructor
  · intro h; exact h2.1 (by omega)
  · intro h; have := h2.2 h; omega
def sumTo (l : List Rat) : Nat → Rat
  | 0 => 0
  | i + 1 => sumTo l i + l.getD i 0
def sumR (l : List Rat) : Rat := sumTo l l.length
theorem sumTo_fz {k : Nat} {l : List Rat} (h : Row k l) : ∀ i, i ≤ l.length → Fz (sumTo l i) (8 + i * (k + 1)) := by
  intro i
  induction i with
  | zero => intro _; exact (Fz.int (n := 0) (by decide)).up (by omega)
  | succ i ih =>
    intro hi
    have e1 : l.getD i 0 = l[i] := lget_lt l 0 (by omega)
    show Fz (sumTo l i + l.getD i 0) _
    rw [e1]
    exact ((ih (by omega)).add (h.get (by omega))).up (by rw [Nat.add_mul]; omega)
theorem sumTo_next {l : List Rat} {i : Nat} (h : i < l.length) : sumTo l i + l[i] = sumTo l (i + 1) := by
  show _ = sumTo l i + l.getD i 0
  rw [lget_lt l 0 h]
end Go.Proofs.YtabmgfchkcmcmaaDoor
