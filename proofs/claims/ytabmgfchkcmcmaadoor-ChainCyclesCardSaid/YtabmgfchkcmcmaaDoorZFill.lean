/- Lists that are filled from the left; rows of rows. Conditions: none. -/
import Derived.Test.YtabmgfchkcmcmaaDoorZAmO
import Derived.Test.YtabmgfchkcmcmaaDoorZAmN
set_option linter.unusedVariables false
set_option linter.unusedSimpArgs false
namespace Go.Proofs.YtabmgfchkcmcmaaDoor
open Go Go.RowKit
def fillL {α : Type} (n k : Nat) (f : Nat → α) (z : α) : List α := (List.range n).map fun j => if j < k then f j else z
section
variable {α : Type} {n k : Nat} {f : Nat → α} {z : α}
theorem fill_len : (fillL n k f z).length = n := by simp [fillL]
theorem fill_zero : fillL n 0 f z = List.replicate n z := by
  apply List.ext_getElem?
  intro i
  by_cases h : i < n <;> simp [fillL, h, List.getElem?_replicate]
theorem fill_get {i : Nat} (h : i < n) : (fillL n k f z)[i]? = some (if i < k then f i else z) := by simp [fillL, h]
theorem fill_set (h : k < n) : (fillL n k f z).set k (f k) = fillL n (k + 1) f z := by
  apply List.ext_getElem?
  intro i
  by_cases hi : i < n
  · by_cases e : i = k
    · subst e; rw [List.getElem?_set_self (by rw [fill_len]; exact hi), fill_get hi, if_pos (by omega)]
    · rw [List.getElem?_set_ne (Ne.symm e), fill_get hi, fill_get hi]
      by_cases hk : i < k
      · rw [if_pos hk, if_pos (by omega)]
      · rw [if_neg hk, if_neg (by omega)]
  · rw [List.getElem?_eq_none (by rw [List.length_set, fill_len]; omega), List.getElem?_eq_none (by rw [fill_len]; omega)]
theorem fill_all : fillL n n f z = (List.range n).map f := by
  unfold fillL
  refine List.map_congr_left fun i hi => ?_
  rw [if_pos (List.mem_range.1 hi)]
theorem range_set {g : Nat → α} {i : Nat} {x : α} (hi : i < n) : ((List.range n).map g).set i x = (List.range n).map fun k => if k = i then x else g k := by
  apply List.ext_getElem?
  intro j
  by_cases hj : j < n
  · by_cases e : j = i
    · subst e; rw [List.getElem?_set_self (by simpa using hj)]; simp [hj]
    · rw [List.getElem?_set_ne (Ne.symm e)]; simp [hj, e]
  · rw [List.getElem?_eq_none (by simp; omega), List.getElem?_eq_none (by simp; omega)]
end
theorem fillA_get {n k : Nat} {f : Nat → FV} {z : FV} {j : Nat} (h : j < n) : ((fillL n k f z).map AV.f)[j]? = some (.f (if j < k then f j else z)) := by rw [List.getElem?_map, fill_get h]; rfl
theorem fillA_set {n k : Nat} {f : Nat → FV} {z x : FV} (h : k < n) (hx : f k = x) : ((fillL n k f z).map AV.f).set k (.f x) = (fillL n (k + 1) f z).map AV.f := by rw [← hx, ← fill_set h, List.map_set]
def at2 (q : List (List Rat)) (i k : Nat) : Rat := (q.getD i []).getD k 0
end Go.Proofs.YtabmgfchkcmcmaaDoor
