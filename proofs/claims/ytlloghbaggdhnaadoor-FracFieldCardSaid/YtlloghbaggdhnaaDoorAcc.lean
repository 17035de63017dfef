/- Calls that give one fixed value and leave all that was there as it was: a form in which their order does not matter. And sizes of products and sums. -/
import Derived.Test.YtlloghbaggdhnaaDoorNatS
set_option linter.unusedVariables false
namespace Go.Proofs.YtlloghbaggdhnaaDoor
open Go Go.RowKit

/-- In every world that lies below, the call gives v and lies below. -/
def Acc (w0 : World) (f : FuncId) (args : Array Value) (v : Value) : Prop :=
  ∀ w, Below w0.heap.size w0 w → Calls Tryd.prog f args w fun e w' => e = .returned v ∧ Below w0.heap.size w0 w'

theorem Acc.go {w0 w : World} {f : FuncId} {args : Array Value} {v : Value} {Q : Ending → World → Prop} (h : Acc w0 f args v) (hb : Below w0.heap.size w0 w)
    (k : ∀ w', Below w0.heap.size w0 w' → Q (.returned v) w') : Calls Tryd.prog f args w Q :=
  (h w hb).mono fun _ w' ⟨he, hb'⟩ => he ▸ k w' hb'

theorem Acc.of {w0 : World} {f : FuncId} {args : Array Value} {v : Value} (h : ∀ w, Calls Tryd.prog f args w fun e w' => e = .returned v ∧ Below w.heap.size w w') : Acc w0 f args v :=
  fun w hb => (h w).mono fun _ _ ⟨he, hb'⟩ => ⟨he, hb.trans (hb'.mono hb.size)⟩
theorem Acc.pure {w0 : World} {f : FuncId} {args : Array Value} {v : Value} (h : ∀ w, Calls Tryd.prog f args w fun e w' => e = .returned v ∧ w = w') : Acc w0 f args v :=
  fun w hb => (h w).mono fun _ _ ⟨he, e⟩ => ⟨he, e ▸ hb⟩
theorem Acc.end {f : FuncId} {args : Array Value} {v : Value} {w : World} (h : Acc w f args v) : Calls Tryd.prog f args w fun e w' => e = .returned v ∧ Below w.heap.size w w' := h w (Below.refl _ _)

/-- n has at most k bytes. -/
def Sz (n k : Nat) : Prop := n < 256 ^ k
theorem Sz.str {n k : Nat} (h : Sz n k) : (ns n).size ≤ k := by rw [ns_size]; exact nb_length_lt h
theorem Sz.of (s : ByteArray) : Sz (vn s) s.size := vn_lt s
theorem Sz.le {m n k : Nat} (h : Sz n k) (hm : m ≤ n) : Sz m k := Nat.lt_of_le_of_lt hm h
theorem Sz.up {n j k : Nat} (h : Sz n j) (hk : j ≤ k) : Sz n k := Nat.lt_of_lt_of_le h (Nat.pow_le_pow_right (by omega) hk)
theorem Sz.mul {m n j k : Nat} (h : Sz m j) (h' : Sz n k) : Sz (m * n) (j + k) := by
  unfold Sz; rw [Nat.pow_add]; exact Nat.mul_lt_mul'' h h'
theorem Sz.add {m n k : Nat} (h : Sz m k) (h' : Sz n k) : Sz (m + n) (k + 1) := by
  unfold Sz at *; rw [Nat.pow_succ]; omega
theorem Sz.pos {n k : Nat} (h : Sz n k) : 0 < 256 ^ k := Nat.lt_of_le_of_lt (Nat.zero_le _) h

theorem add_acc {w : World} {x y r : ByteArray} (hx : x.size ≤ 137438953472) (hy : y.size ≤ 137438953472) (h : r = ns (vn x + vn y)) : Acc w 71 #[.string x, .string y] (.string r) :=
  .of fun w' => h ▸ add_any x y w' (by omega) (by omega)
theorem mul_acc {w : World} {x y r : ByteArray} (hx : x.size ≤ 137438953472) (hy : y.size ≤ 137438953472) (h : r = ns (vn x * vn y)) : Acc w 69 #[.string x, .string y] (.string r) :=
  .of fun w' => h ▸ mul_any x y w' hx hy
theorem gcd_acc {w : World} {x y r : ByteArray} (hx : x.size ≤ 137438953472) (hy : y.size ≤ 137438953472) (h : r = ns (Nat.gcd (vn x) (vn y))) : Acc w 133 #[.string x, .string y] (.string r) :=
  .of fun w' => h ▸ gcd_any x y w' hx hy
theorem trim_acc {w : World} {x r : ByteArray} (hx : x.size ≤ 137438953472) (h : r = ns (vn x)) : Acc w 130 #[.string x] (.string r) :=
  .pure fun w' => h ▸ trim_any x w' (by unfold maxLen; omega)
theorem cmp_acc {w : World} {x y : ByteArray} {c : Int} (hx : x.size ≤ 137438953472) (hy : y.size ≤ 137438953472) (h : c = cmpN (vn x) (vn y)) : Acc w 135 #[.string x, .string y] (.int .i64 c) :=
  .pure fun w' => h ▸ cmp_any x y w' (by unfold maxLen; omega) (by unfold maxLen; omega)
theorem div_acc {w : World} {x y q r : ByteArray} (hx : x.size ≤ 137438953472) (hy : y.size ≤ 137438953472) (h0 : vn y ≠ 0) (hq : q = ns (vn x / vn y)) (hr : r = ns (vn x % vn y)) :
    Acc w 134 #[.string x, .string y] (.tuple #[.string q, .string r, .bool true]) :=
  .of fun w' => hq ▸ hr ▸ div_any x y w' hx hy h0
theorem div_acc0 {w : World} {x y q : ByteArray} (hx : x.size ≤ 137438953472) (hy : y.size ≤ 137438953472) (h0 : vn y = 0) (hq : q = ns 0) :
    Acc w 134 #[.string x, .string y] (.tuple #[.string q, .string q, .bool false]) :=
  .of fun w' => hq ▸ div_zero x y w' hx hy h0
theorem sub_acc {w : World} {x y r : ByteArray} (hx : x.size ≤ 137438953472) (hy : y.size ≤ 137438953472) (h : vn y ≤ vn x) (hr : r = ns (vn x - vn y)) :
    Acc w 72 #[.string x, .string y] (.tuple #[.string r, .bool true]) :=
  .of fun w' => hr ▸ sub_yes x y w' (by omega) (by omega) h
theorem sub_acc0 {w : World} {x y r : ByteArray} (hx : x.size ≤ 137438953472) (hy : y.size ≤ 137438953472) (h : vn x < vn y) (hr : r = ns 0) :
    Acc w 72 #[.string x, .string y] (.tuple #[.string r, .bool false]) :=
  .of fun w' => hr ▸ sub_no x y w' (by unfold maxLen; omega) (by unfold maxLen; omega) h
theorem of_acc {w : World} {n : Int} {r : ByteArray} (h0 : 0 ≤ n) (hn : n ≤ 9223372036854775807) (hr : r = ns n.toNat) : Acc w 73 #[.int .i64 n] (.string r) :=
  .of fun w' => hr ▸ of_any n w' h0 hn
theorem vn_nil : vn ⟨#[]⟩ = 0 := by have := vn_ns 0; rw [ns_zero] at this; exact this
end Go.Proofs.YtlloghbaggdhnaaDoor
