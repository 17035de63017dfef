/- More words on memory for the walks. No program in sight. No condition. -/
import Derived.Test.YtlloghbaggdhnaaDoorKit
set_option linter.unusedVariables false
set_option linter.unusedSimpArgs false
namespace Go.Proofs.YtlloghbaggdhnaaDoor
open Go.RowKit

/-- A slice in newer blocks than the one that was written. -/
theorem SliceAt.grown {w w' : World} {v : Value} {size : Nat} {cs : List Value} {row : Option Nat} {B : Nat} (h : SliceAt w v size cs) (hf : FreshV B v) (hr : ∀ k, row = some k → k < B) (hg : w.grownBy w' row) : SliceAt w' v size cs := by
  obtain ⟨n, cap, h1, h2, h3, h4, h5⟩ := h
  refine ⟨n, cap, h1, h2, h3, h4, ?_⟩
  by_cases h0 : n = 0
  · rcases h5 with h5 | ⟨b, off, rfl, h5⟩
    · exact .inl h5
    · exact .inl ⟨h0, _, by rw [h0]⟩
  · rcases h5 with h5 | ⟨b, off, rfl, h5⟩
    · exact .inl h5
    · have hb := hf _ _ _ rfl (by omega)
      refine .inr ⟨b, off, rfl, fun j hj => ?_⟩
      rw [← h5 j hj]
      refine World.cell?_of_block (hg.block b (World.block_lt_of_cell? w _ (h5 j hj)) (fun e => ?_))
      have := hr b e.symm
      simp at hb; omega
theorem SliceAt.alloc {w : World} {v : Value} {size : Nat} {cs : List Value} (h : SliceAt w v size cs) (o : Obj) : SliceAt (w.alloc o) v size cs := h.ext ((Below.refl _ w).alloc (Nat.le_refl _) o)
/-- What is owned stays owned over a call that leaves all that lay as it lay. -/
theorem owns_ext {w w' : World} {base : Nat} {e : TypeId} {size n : Nat} {v : Value} {xs : List Value} (h : w.ownsRow base e size v n xs) (hb : Below w.heap.size w w') : w'.ownsRow base e size v n xs :=
  h.kept (row := none) ⟨hb.os, hb.tape, hb.output, hb.size, fun k hk _ => hb.block k hk⟩ (by cases hv : v.ownBlock <;> simp)
theorem neBool {a b : Nat} (h : a ≠ b) : ((a : Int) == (b : Int)) = false := beq_eq_false_iff_ne.2 (by omega)
end Go.Proofs.YtlloghbaggdhnaaDoor
