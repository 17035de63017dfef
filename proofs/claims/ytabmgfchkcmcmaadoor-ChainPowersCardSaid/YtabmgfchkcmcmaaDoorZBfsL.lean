/- All that one comes to, by a list that grows: plain Lean. Conditions: none. -/
import Derived.Test.YtabmgfchkcmcmaaDoorZReaL
set_option linter.unusedVariables false
set_option linter.unusedSimpArgs false
namespace Go.Proofs.YtabmgfchkcmcmaaDoor
open Go Go.RowKit
theorem nodup_le : ∀ {n : Nat} {l : List Nat}, l.Nodup → (∀ a ∈ l, a < n) → l.length ≤ n := by
  intro n
  induction n with
  | zero =>
    intro l _ h
    cases l with
    | nil => exact Nat.le_refl _
    | cons a l => exact absurd (h a (by simp)) (by omega)
  | succ n ih =>
    intro l hd h
    by_cases hm : n ∈ l
    · have h1 := ih (l := l.erase n) (hd.erase n) fun a ha => by
        obtain ⟨h2, h3⟩ := hd.mem_erase_iff.1 ha
        have := h a h3
        omega
      rw [List.length_erase_of_mem hm] at h1
      omega
    · have h1 := ih hd fun a ha => by
        have := h a ha
        have : a ≠ n := fun e => hm (e ▸ ha)
        omega
      omega
/-- What is in the list, of which the first k are done. -/
structure Bfs (n : Nat) (E : Bx) (i : Nat) (l : List Nat) (k : Nat) : Prop where
  nd : l.Nodup
  at0 : i ∈ l
  lt : ∀ a ∈ l, a < n
  star : ∀ a ∈ l, Star n E i a
  out : ∀ a, a < k → ∀ b, b < n → E (l.getD a 0) b = true → b ∈ l
section
variable {n i k j : Nat} {E : Bx} {l : List Nat}
theorem Bfs.first (hi : i < n) : Bfs n E i [i] 0 := ⟨by simp, by simp, fun a h => by simp at h; omega, fun a h => by simp at h; rw [h]; exact .refl, fun a h => by omega⟩
theorem Bfs.len (h : Bfs n E i l k) : l.length ≤ n := nodup_le h.nd h.lt
theorem getD_snoc {l : List Nat} {a j : Nat} (h : a < l.length) : (l ++ [j]).getD a 0 = l.getD a 0 := by
  rw [List.getD_eq_getElem?_getD, List.getD_eq_getElem?_getD, List.getElem?_append_left h]
theorem Bfs.add (h : Bfs n E i l k) (hk : k < l.length) (hj : j < n) (he : E (l.getD k 0) j = true) (hn : j ∉ l) : Bfs n E i (l ++ [j]) k where
  nd := List.nodup_append.2 ⟨h.nd, by simp, fun a ha b hb => by simp at hb; exact fun e => hn (by rw [← hb, ← e]; exact ha)⟩
  at0 := List.mem_append_left _ h.at0
  lt a ha := by
    rcases List.mem_append.1 ha with ha | ha
    · exact h.lt a ha
    · simp at ha; omega
  star a ha := by
    rcases List.mem_append.1 ha with ha | ha
    · exact h.star a ha
    · simp at ha; subst ha
      have hm : l.getD k 0 ∈ l := by rw [lget_lt l 0 hk]; exact List.getElem_mem _
      exact .step (h.star _ hm) hj he
  out a ha b hb hE := by
    rw [getD_snoc (by omega)] at hE
    exact List.mem_append_left _ (h.out a ha b hb hE)
theorem Bfs.next (h : Bfs n E i l k) (ho : ∀ b, b < n → E (l.getD k 0) b = true → b ∈ l) : Bfs n E i l (k + 1) :=
  ⟨h.nd, h.at0, h.lt, h.star, fun a ha b hb hE => by
    by_cases e : a = k
    · subst e; exact ho b hb hE
    · exact h.out a (by omega) b hb hE⟩
theorem Bfs.done (h : Bfs n E i l k) (hk : l.length ≤ k) (a : Nat) : a ∈ l ↔ Star n E i a := ⟨h.star a, fun hs => by
  induction hs with
  | refl => exact h.at0
  | step _ hk' he ih =>
    obtain ⟨c, hc, e⟩ := List.getElem_of_mem ih
    exact h.out c (by omega) _ hk' (by rw [lget_lt l 0 hc, e]; exact he)⟩
def bPart (E : Bx) (l : List Nat) (k : Nat) : Nat → List Nat
  | 0 => l
  | j + 1 => if E (l.getD k 0) j = true ∧ j ∉ bPart E l k j then bPart E l k j ++ [j] else bPart E l k j
def bfsN (n : Nat) (E : Bx) : Nat → List Nat → Nat → List Nat
  | 0, l, _ => l
  | f + 1, l, k => if k < l.length then bfsN n E f (bPart E l k n) (k + 1) else l
def comL (n : Nat) (E : Bx) (i : Nat) : List Nat := bfsN n E (n + 1) [i] 0
end
end Go.Proofs.YtabmgfchkcmcmaaDoor
