/- Fractions as they are told, lists and rows of such: what each call of the program and of the document gives. Conditions: parts within 2^35 bytes. -/
import Derived.Test.YtabmgfchkcmcmaaDoorYFrA
set_option linter.unusedVariables false
set_option linter.unusedSimpArgs false
namespace Go.Proofs.YtabmgfchkcmcmaaDoor
open Go Go.RowKit
def IsFr (x : FV) (q : Rat) (k : Nat) : Prop := ∃ g n d, x = frR g n d ∧ Is g n d q k
theorem IsFr.c {q : Rat} {k : Nat} (h : Fz q k) : IsFr (fr q) q k := ⟨_, _, _, fr_frR q, Is.c h⟩
theorem IsFr.up {x : FV} {q : Rat} {j k : Nat} (h : IsFr x q j) (hk : j ≤ k) : IsFr x q k := by obtain ⟨g, n, d, e, h⟩ := h; exact ⟨g, n, d, e, h.up hk⟩
theorem IsFr.fz {x : FV} {q : Rat} {k : Nat} (h : IsFr x q k) (hk : 1 ≤ k) : Fz q k := by obtain ⟨g, n, d, e, h⟩ := h; exact h.fz hk
theorem IsFr.raw (g : Bool) (n d : ByteArray) {k : Nat} (hn : n.size ≤ k) (hd : d.size ≤ k) : IsFr (frR g n d) (rv g n d) k := ⟨g, n, d, rfl, rfl, hn, hd⟩
theorem IsFr.int {n : Int} (h0 : -9223372036854775808 ≤ n) (h1 : n ≤ 9223372036854775807) : IsFr (fr (n : Rat)) (n : Rat) 8 := .c (Fz.int (by omega))
section
variable {x y : FV} {a b : Rat} {j k : Nat}
theorem canon_w (ha : IsFr x a j) (hj : j ≤ 34359738368) : Good Tryd.prog 159 [x] (fr a) := by
  obtain ⟨g, n, d, rfl, ha⟩ := ha
  exact good_calls (by kernel_rfl) rfl rfl fun w => fcanon_g ha hj w
theorem rcanon_w (ha : IsFr x a j) (hj : j ≤ 34359738368) : Good Tryd.prog 76 [x] (fr a) := by
  obtain ⟨g, n, d, rfl, ha⟩ := ha
  exact rcanon_good ha hj
end
structure Frs (k : Nat) (xs : List FV) (l : List Rat) : Prop where
  len : xs.length = l.length
  get : ∀ (i : Nat) q, l[i]? = some q → ∃ x, xs[i]? = some x ∧ IsFr x q k
structure FrM (k : Nat) (ys : List FV) (m : List (List Rat)) : Prop where
  len : ys.length = m.length
  get : ∀ (i : Nat) r, m[i]? = some r → ∃ xs, ys[i]? = some (.fz 3 xs) ∧ Frs k xs r
def Row (k : Nat) (l : List Rat) : Prop := ∀ q ∈ l, Fz q k
theorem Row.get {k : Nat} {l : List Rat} (h : Row k l) {i : Nat} (hi : i < l.length) : Fz l[i] k := h _ (List.getElem_mem hi)
theorem Frs.c {k : Nat} {l : List Rat} (h : Row k l) : Frs k (l.map fr) l := ⟨by simp, fun i q hq => ⟨fr q, by rw [List.getElem?_map, hq]; rfl, .c (h q (List.mem_of_getElem? hq))⟩⟩
theorem FrM.c {k : Nat} {m : List (List Rat)} (h : ∀ r ∈ m, Row k r) : FrM k (m.map frs) m := ⟨by simp, fun i r hr => ⟨r.map fr, by rw [List.getElem?_map, hr]; rfl, .c (h r (List.mem_of_getElem? hr))⟩⟩
theorem Frs.at {k : Nat} {xs : List FV} {l : List Rat} (h : Frs k xs l) {i : Nat} (hi : i < l.length) : ∃ x, xs[i]? = some x ∧ IsFr x l[i] k := h.get i _ (List.getElem?_eq_getElem hi)
theorem FrM.at {k : Nat} {ys : List FV} {m : List (List Rat)} (h : FrM k ys m) {i : Nat} (hi : i < m.length) : ∃ xs, ys[i]? = some (.fz 3 xs) ∧ Frs k xs m[i] := h.get i _ (List.getElem?_eq_getElem hi)
theorem Frs.up {j k : Nat} {xs : List FV} {l : List Rat} (h : Frs j xs l) (hk : j ≤ k) : Frs k xs l := ⟨h.len, fun i q hq => by obtain ⟨x, h1, h2⟩ := h.get i q hq; exact ⟨x, h1, h2.up hk⟩⟩
theorem Frs.row {k : Nat} {xs : List FV} {l : List Rat} (h : Frs k xs l) (hk : 1 ≤ k) : Row k l := fun q hq => by
  obtain ⟨i, hi⟩ := List.getElem?_of_mem hq
  obtain ⟨x, _, h2⟩ := h.get i q hi
  exact h2.fz hk
end Go.Proofs.YtabmgfchkcmcmaaDoor
