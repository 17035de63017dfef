/- Fractions as arguments: opened to their three fields, and shut. Condition: none. -/
import Derived.Test.YtlloghbaggdhnaaDoorFracV
import Derived.Test.YtlloghbaggdhnaaDoorCardKit
import Derived.Lib.SmallJoins
import Derived.SizedLaws
import Derived.ChangeArms
set_option linter.unusedVariables false
set_option linter.unusedSimpArgs false
namespace Go.Proofs.YtlloghbaggdhnaaDoor
open Go.ChangeShapes Go.WideShapes Go.ChangeAt Go.RowKit Go.Joins
variable {H : Type} {enc : TypeId × Value → H} {w : World} {base : Nat} {spare : Nat → Bool} {held : Bool}

set_option maxRecDepth 100000 in
theorem open_frac {r : Reach} {b0 : Nat} {v : Value} {d : DataW H} {p : List MemPlace} (hv : Value.okWide Tryd.prog w r b0 24 v) (h : DataW.Trod enc Tryd.prog w base spare held 24 v d p) :
    ∃ (g : Bool) (n m : ByteArray), v = .agg #[.bool g, .string n, .string m] ∧ d = .agg [.lit (.bool g), .lit (.string n.data.toList), .lit (.string m.data.toList)] ∧ p = [] ∧ n.size ≤ maxLen ∧ m.size ≤ maxLen := by
  obtain ⟨v0, v1, v2, y0, y1, y2, n, rfl, rfl, rfl, h0, h1, h2⟩ := open_agg3 Tryd.underlying24 (by kernel_rfl) (by kernel_rfl) hv h
  obtain ⟨g, e0, rfl⟩ := DataW.trod_bool Tryd.underlying4 h0
  obtain ⟨a, e1, rfl, z1⟩ := DataW.trod_string Tryd.underlying22 h1
  obtain ⟨b, e2, rfl, z2⟩ := DataW.trod_string Tryd.underlying22 h2
  simp only [List.cons.injEq, and_true] at e0 e1 e2
  subst e0 e1 e2
  exact ⟨g, a, b, rfl, rfl, rfl, z1, z2⟩
set_option maxRecDepth 100000 in
theorem shut_frac (g : Bool) (n m : ByteArray) (z1 : n.size ≤ maxLen) (z2 : m.size ≤ maxLen) :
    DataW.Trod enc Tryd.prog w base spare held 24 (.agg #[.bool g, .string n, .string m]) (.agg [.lit (.bool g), .lit (.string n.data.toList), .lit (.string m.data.toList)]) [] := by
  have s0 : ∃ k, DataW.trod enc Tryd.prog w base spare held k 4 [.bool g] = some (.lit (.bool g), []) := shut_bool Tryd.underlying4 g
  have s1 : ∃ k, DataW.trod enc Tryd.prog w base spare held k 22 [.string n] = some (.lit (.string n.data.toList), []) := Go.ChangeMaps.shut_string Tryd.underlying22 z1
  have s2 : ∃ k, DataW.trod enc Tryd.prog w base spare held k 22 [.string m] = some (.lit (.string m.data.toList), []) := Go.ChangeMaps.shut_string Tryd.underlying22 z2
  exact shut_agg3 Tryd.underlying24 (by kernel_rfl) (by kernel_rfl) s0 s1 s2
set_option maxRecDepth 100000 in
theorem sized_frac {ts : List TypeId} {ds : List (DataW H)} (h : (DataW.weightsEach Tryd.prog ts ds).all (· ≤ reachBytes) = true) {j : Nat} {g : Bool} {n m : ByteArray} (ht : ts[j]? = some 24)
    (hd : ds[j]? = some (.agg [.lit (.bool g), .lit (.string n.data.toList), .lit (.string m.data.toList)])) : n.size ≤ 140737488355328 ∧ m.size ≤ 140737488355328 := by
  have k1 := List.all_eq_true.1 h _ (DataW.weights_mem_each ht hd n.data.toList.length (by simp [DataW.weights, Tryd.underlying24, DataW.weightsEach]))
  have k2 := List.all_eq_true.1 h _ (DataW.weights_mem_each ht hd m.data.toList.length (by simp [DataW.weights, Tryd.underlying24, DataW.weightsEach]))
  have := reachBytes_lt
  rw [bytes_size] at k1 k2
  simp only [decide_eq_true_eq] at k1 k2
  omega
end Go.Proofs.YtlloghbaggdhnaaDoor
