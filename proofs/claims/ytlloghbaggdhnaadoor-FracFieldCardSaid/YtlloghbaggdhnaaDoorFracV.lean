/- Fractions as values, for the callers: what each call of package frac gives, in a form in which the order of calls does not matter. Conditions: parts within 2^35 bytes. -/
import Derived.Test.YtlloghbaggdhnaaDoorFracD
set_option linter.unusedVariables false
set_option linter.unusedSimpArgs false
namespace Go.Proofs.YtlloghbaggdhnaaDoor
open Go Go.RowKit

/-- The three fields of a rational in lowest terms. -/
def cg (q : Rat) : Bool := decide (q.num < 0)
def cn (q : Rat) : ByteArray := ns q.num.natAbs
def cd (q : Rat) : ByteArray := ns q.den
abbrev fv (q : Rat) : Value := .agg #[.bool (cg q), .string (cn q), .string (cd q)]
theorem frv_fv (q : Rat) : frv q = fv q := rfl
theorem rv_c (q : Rat) : rv (cg q) (cn q) (cd q) = q := rv_frv q
theorem cg_zero : cg 0 = false := rfl
theorem cn_zero : cn 0 = ⟨#[]⟩ := by show ns 0 = _; exact ns_zero
theorem cd_zero : cd 0 = ⟨#[1]⟩ := by show ns 1 = _; exact ns_one
theorem cn_ne {q : Rat} (h : q ≠ 0) : (cn q).size ≠ 0 := by
  unfold cn; exact ns_pos_size (fun e => h (Rat.num_eq_zero.1 (by omega)))
/-- Three fields stand for a rational, within k bytes. -/
def Is (g : Bool) (n d : ByteArray) (q : Rat) (k : Nat) : Prop := rv g n d = q ∧ n.size ≤ k ∧ d.size ≤ k
theorem Is.c {q : Rat} {k : Nat} (h : Fz q k) : Is (cg q) (cn q) (cd q) q k :=
  ⟨rv_c q, by unfold cn; rw [ns_size]; exact nb_length_lt h.1, by unfold cd; rw [ns_size]; exact nb_length_lt h.2⟩
theorem Is.fz {g : Bool} {n d : ByteArray} {q : Rat} {k : Nat} (h : Is g n d q k) (hk : 1 ≤ k) : Fz q k :=
  Fr.fz ⟨g, n, d, rfl, h.1.symm, h.2.1, h.2.2⟩ hk
theorem Is.up {g : Bool} {n d : ByteArray} {q : Rat} {j k : Nat} (h : Is g n d q j) (hk : j ≤ k) : Is g n d q k := ⟨h.1, by have := h.2.1; omega, by have := h.2.2; omega⟩
theorem Is.zero : Is false ⟨#[]⟩ ⟨#[1]⟩ 0 1 := ⟨rv_zero (.inl vn_nil), by decide, by decide⟩

theorem Gives.at {f : FuncId} {args : Array Value} {v : Value} (h : Gives f args v) (w : World) : Calls Tryd.prog f args w fun e w' => e = .returned v ∧ Below w.heap.size w w' := h w
theorem Gives.acc {w : World} {f : FuncId} {args : Array Value} {v : Value} (h : Gives f args v) : Acc w f args v := .of h

section
variable {g g2 : Bool} {n d n2 d2 : ByteArray} {x y r : Rat} {k : Nat}
theorem fadd_g (h : Is g n d x k) (h' : Is g2 n2 d2 y k) (h0 : 1 ≤ k) (hk : k ≤ 34359738368) (e : x + y = r) : Gives 14 #[.agg #[.bool g, .string n, .string d], .agg #[.bool g2, .string n2, .string d2]] (fv r) :=
  fun w' => by rw [← e, ← h.1, ← h'.1]; exact fadd_any g n d g2 n2 d2 w' h0 hk h.2.1 h.2.2 h'.2.1 h'.2.2
theorem fsub_g (h : Is g n d x k) (h' : Is g2 n2 d2 y k) (h0 : 1 ≤ k) (hk : k ≤ 34359738368) (e : x - y = r) : Gives 16 #[.agg #[.bool g, .string n, .string d], .agg #[.bool g2, .string n2, .string d2]] (fv r) :=
  fun w' => by rw [← e, ← h.1, ← h'.1]; exact fsub_any g n d g2 n2 d2 w' h0 hk h.2.1 h.2.2 h'.2.1 h'.2.2
theorem fmul_g (h : Is g n d x k) (h' : Is g2 n2 d2 y k) (h0 : 1 ≤ k) (hk : k ≤ 34359738368) (e : x * y = r) : Gives 15 #[.agg #[.bool g, .string n, .string d], .agg #[.bool g2, .string n2, .string d2]] (fv r) :=
  fun w' => by rw [← e, ← h.1, ← h'.1]; exact fmul_any g n d g2 n2 d2 w' h0 hk h.2.1 h.2.2 h'.2.1 h'.2.2
theorem fcanon_g (h : Is g n d x k) (hk : k ≤ 34359738368) : Gives 17 #[.agg #[.bool g, .string n, .string d]] (fv x) :=
  fun w' => by rw [← h.1]; exact fcanon_any g n d w' (by have := h.2.1; omega) (by have := h.2.2; omega)
theorem fdiv_g (h : Is g n d x k) (h' : Is g2 n2 d2 y k) (h0 : 1 ≤ k) (hk : k ≤ 34359738368) (hy : y ≠ 0) (e : x / y = r) : Gives 19 #[.agg #[.bool g, .string n, .string d], .agg #[.bool g2, .string n2, .string d2]] (.tuple #[fv r, .int .i64 0]) :=
  fun w' => by rw [← e, ← h.1, ← h'.1]; exact fdiv_any g n d g2 n2 d2 w' h0 hk h.2.1 h.2.2 h'.2.1 h'.2.2 (by rw [h'.1]; exact hy)
theorem fdiv_g0 (h' : Is g2 n2 d2 0 k) (h0 : 1 ≤ k) (hk : k ≤ 34359738368) : Gives 19 #[.agg #[.bool g, .string n, .string d], .agg #[.bool g2, .string n2, .string d2]] (.tuple #[.agg #[.bool false, .string ⟨#[]⟩, .string ⟨#[]⟩], .int .i64 3]) :=
  fun w' => fdiv_zero g n d g2 n2 d2 w' h0 hk h'.2.1 h'.2.2 h'.1
theorem fcmp_g (h : Is g n d x k) (h' : Is g2 n2 d2 y k) (h0 : 1 ≤ k) (hk : k ≤ 34359738368) {c : Int} (e : cmpR x y = c) : Gives 20 #[.agg #[.bool g, .string n, .string d], .agg #[.bool g2, .string n2, .string d2]] (.int .i64 c) :=
  fun w' => by rw [← e, ← h.1, ← h'.1]; exact fcmp_any g n d g2 n2 d2 w' h0 hk h.2.1 h.2.2 h'.2.1 h'.2.2
theorem fof_g {n : Int} (h1 : -9223372036854775808 ≤ n) (h2 : n ≤ 9223372036854775807) : Gives 18 #[.int .i64 n] (fv (n : Rat)) :=
  fun w' => fof_any n w' h1 h2
end
end Go.Proofs.YtlloghbaggdhnaaDoor
