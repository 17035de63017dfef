/- All that one comes to, by a list that grows: plain Lean. Conditions: none. -/
import Derived.Test.YtabmgfchkcmcmaaDoorZReaL
set_option linter.unusedVariables false
set_option linter.unusedSimpArgs false
namespace Go.Proofs.YtabmgfchkcmcmaaDoor
open Go Go.RowKit
theorem nodup_le : ∀ {n : Nat} {l : List Nat}, l.Nodup → (∀ a ∈ l, a < n) → l.length ≤ n := by
  intro n
  induction n with
  | zero =>
    intro l _ h
    cases l with
    | nil => exact Nat.le_refl _
    | cons a l => exact absurd (h a (by simp)) (by omega)
  | succ n ih =>
    intro l hd h
    by_cases hm : n ∈ l
    · have h1 := ih (l := l.erase n) (hd.erase n) fun a ha => by
        obtain ⟨h2, h3⟩ := hd.mem_erase_iff.1 ha
        have := h a h3
        omega
      rw [List.length_erase_of_mem hm] at h1
      omega
    · have h1 := ih hd fun a ha => by
        have := h a ha
        have : a ≠ n := fun e => hm (e ▸ ha)
        omega
      omega
structure Bfs (n : Nat) (E : Bx) (i : Nat) (l : List Nat) (k : Nat) : Prop where
  nd : l.Nodup
  at0 : i ∈ l
  lt : ∀ a ∈ l, a < n
  star : ∀ a ∈ l, Star n E i a
  out : ∀ a, a < k → ∀ b, b < n → E (l.getD a 0) b = true → b ∈ l
section
variable {n i k j : Nat} {E : Bx} {l : List Nat}
theorem Bfs.first (hi : i < n) : Bfs n E i [i] 0 := ⟨by simp, by simp, fun a h => by simp at h; omega, fun a h => by simp at h; rw [h]; exact .refl, fun a h => by omega⟩
theorem Bfs.len (h : Bfs n E i l k) : l.length ≤ n := nodup_le h.nd h.lt
theorem getD_snoc {l : List Nat} {a j : Nat} (h : a < l.length) : (l ++ [j]).getD a 0 = l.getD a 0 := by
  rw [List.getD_eq_getElem?_getD, List.getD_eq_getElem?_getD, List.getElem?_append_left h]
theorem Bfs.add (h : Bfs n E i l k) (hk : k < l.length) (hj : j < n) (he : E (l.getD k 0) j = true) (hn : j ∉ l) : Bfs n E i (l ++ [j]) k where
  nd := List.nodup_append.2 ⟨h.nd, by simp, fun a ha b hb => by simp at hb; exact fun e => hn (by rw [← hb, ← e]; exact ha)⟩
  at0 := List.mem_append_left _ h.at0
  lt a ha := by
    rcases List.mem_append.1 ha with ha | ha
    · exact h.lt a ha
    · simp at ha; omega
  star a ha := by
    rcases List.mem_append.1 ha with ha | ha
    · exact h.star a ha
    · simp at ha; subst ha
      have hm : l.getD k 0 ∈ l := by rw [lget_lt l 0 hk]; exact List.getElem_mem _
      exact .step (h.star _ hm) hj he
  out a ha b hb hE := by
    rw [getD_snoc (by omega)] at hE
    exact List.mem_append_left _ (h.out a ha b hb hE)
theorem Bfs.next (h : Bfs n E i l k) (ho : ∀ b, b < n → E (l.getD k 0) b = true → b ∈ l) : Bfs n E i l (k + 1) :=
  ⟨h.nd, h.at0, h.lt, h.star, fun a ha b hb hE => by
    by_cases e : a = k
    · subst e; exact ho b hb hE
    · exact h.out a (by omega) b hb hE⟩
theorem Bfs.done (h : Bfs n E i l k) (hk : l.length ≤ k) (a : Nat) : a ∈ l ↔ Star n E i a := ⟨h.star a, fun hs => by
  induction hs with
  | refl => exact h.at0
  | step _ hk' he ih =>
    obtain ⟨c, hc, e⟩ := List.getElem_of_mem ih
    exact h.out c (by omega) _ hk' (by rw [lget_lt l 0 hc, e]; exact he)⟩
def bPart (E : Bx) (l : List Nat) (k : Nat) : Nat → List Nat
  | 0 => l
  | j + 1 => if E (l.getD k 0) j = true ∧ j ∉ bPart E l k j then bPart E l k j ++ [j] else bPart E l k j
def bfsN (n : Nat) (E : Bx) : Nat → List Nat → Nat → List Nat
  | 0, l, _ => l
  | f + 1, l, k => if k < l.length then bfsN n E f (bPart E l k n) (k + 1) else l
def comL (n : Nat) (E : Bx) (i : Nat) : List Nat := bfsN n E (n + 1) [i] 0
theorem bPart_spec (h : Bfs n E i l k) (hk : k < l.length) : ∀ {j : Nat}, j ≤ n → Bfs n E i (bPart E l k j) k ∧ (∀ b, b < j → E (l.getD k 0) b = true → b ∈ bPart E l k j) ∧ (∀ a, a < l.length → (bPart E l k j).getD a 0 = l.getD a 0) ∧ l.length ≤ (bPart E l k j).length := by
  intro j
  induction j with
  | zero => intro _; exact ⟨h, fun b hb => by omega, fun a _ => rfl, Nat.le_refl _⟩
  | succ j ih =>
    intro hj
    obtain ⟨h1, h2, h3, h4⟩ := ih (by omega)
    by_cases hc : E (l.getD k 0) j = true ∧ j ∉ bPart E l k j
    · have e : bPart E l k (j + 1) = bPart E l k j ++ [j] := if_pos hc
      rw [e]
      refine ⟨h1.add (by omega) (by omega) (by rw [h3 k hk]; exact hc.1) hc.2, fun b hb he => ?_, fun a ha => ?_, by simp; omega⟩
      · by_cases eb : b = j
        · subst eb; simp
        · exact List.mem_append_left _ (h2 b (by omega) he)
      · rw [getD_snoc (by omega)]; exact h3 a ha
    · have e : bPart E l k (j + 1) = bPart E l k j := if_neg hc
      rw [e]
      refine ⟨h1, fun b hb he => ?_, h3, h4⟩
      by_cases eb : b = j
      · subst eb
        exact Classical.byContradiction fun hn => hc ⟨he, hn⟩
      · exact h2 b (by omega) he
theorem bPart_next (h : Bfs n E i l k) (hk : k < l.length) : Bfs n E i (bPart E l k n) (k + 1) := by
  obtain ⟨h1, h2, h3, h4⟩ := bPart_spec h hk (Nat.le_refl n)
  exact h1.next fun b hb he => h2 b hb (by rw [h3 k hk] at he; exact he)
theorem bfsN_spec : ∀ {f : Nat} {l : List Nat} {k : Nat}, Bfs n E i l k → n < f + k → ∃ k', Bfs n E i (bfsN n E f l k) k' ∧ (bfsN n E f l k).length ≤ k' := by
  intro f
  induction f with
  | zero =>
    intro l k h hf
    have := h.len
    exact ⟨k, h, by show l.length ≤ k; omega⟩
  | succ f ih =>
    intro l k h hf
    by_cases hk : k < l.length
    · have e : bfsN n E (f + 1) l k = bfsN n E f (bPart E l k n) (k + 1) := if_pos hk
      rw [e]
      exact ih (bPart_next h hk) (by omega)
    · have e : bfsN n E (f + 1) l k = l := if_neg hk
      rw [e]
      exact ⟨k, h, by omega⟩
theorem comL_mem (hi : i < n) (a : Nat) : a ∈ comL n E i ↔ Star n E i a := by
  obtain ⟨k', h, hk⟩ := bfsN_spec (f := n + 1) (Bfs.first (E := E) hi) (by omega)
  exact h.done hk a
theorem comL_nd (hi : i < n) : (comL n E i).Nodup := by
  obtain ⟨k', h, hk⟩ := bfsN_spec (f := n + 1) (Bfs.first (E := E) hi) (by omega)
  exact h.nd
theorem comL_lt (hi : i < n) : ∀ a ∈ comL n E i, a < n := by
  obtain ⟨k', h, hk⟩ := bfsN_spec (f := n + 1) (Bfs.first (E := E) hi) (by omega)
  exact h.lt
end
end Go.Proofs.YtabmgfchkcmcmaaDoor
