/- The call's own blocks, known whole, in the order in which they were made: one word for the state of a walk. No program in sight. No condition. -/
import Derived.Test.YtlloghbaggdhnaaDoorKitB
set_option linter.unusedVariables false
set_option linter.unusedSimpArgs false
namespace Go.Proofs.YtlloghbaggdhnaaDoor
open Go Go.RowKit

/-- Blocks in rising order, from lo on. -/
def Bxs (wx : World) : Nat → List (Nat × TypeId × List Value) → Prop
  | _, [] => True
  | lo, (b, e, cs) :: l => lo ≤ b ∧ Blk wx b e cs ∧ Bxs wx (b + 1) l
/-- All that lay below is as it lay, and the call's own blocks hold this. -/
def St (w0 wx : World) (l : List (Nat × TypeId × List Value)) : Prop := Below w0.heap.size w0 wx ∧ Bxs wx w0.heap.size l

theorem Bxs.imp {wx wy : World} {lo : Nat} {l : List (Nat × TypeId × List Value)} (h : Bxs wx lo l) (hk : ∀ b e cs, lo ≤ b → Blk wx b e cs → Blk wy b e cs) : Bxs wy lo l := by
  induction l generalizing lo with
  | nil => trivial
  | cons p l ih =>
    obtain ⟨h1, h2, h3⟩ := h
    exact ⟨h1, hk _ _ _ h1 h2, ih h3 (fun b e cs hb => hk b e cs (by omega))⟩
theorem Bxs.set {wx : World} {lo : Nat} {l : List (Nat × TypeId × List Value)} (h : Bxs wx lo l) (i : Nat) {b : Nat} {e : TypeId} {cs : List Value} (hi : l[i]? = some (b, e, cs)) (k : Nat) (u : Value) :
    Bxs (wx.setCell ⟨b, k, none⟩ u) lo (l.set i (b, e, cs.set k u)) := by
  induction l generalizing lo i with
  | nil => simp at hi
  | cons p l ih =>
    obtain ⟨h1, h2, h3⟩ := h
    cases i with
    | zero =>
      simp at hi
      subst hi
      exact ⟨h1, Blk.set h2 k u, h3.imp (fun b' e' cs' hb' hk => hk.setOther (by simp at *; omega) u)⟩
    | succ i =>
      have hi' : l[i]? = some (b, e, cs) := by simpa using hi
      have hb : p.1 + 1 ≤ b := by
        clear ih hi
        induction l generalizing i p with
        | nil => simp at hi'
        | cons q l ih2 =>
          obtain ⟨k1, k2, k3⟩ := h3
          cases i with
          | zero => simp at hi'; subst hi'; exact k1
          | succ i => exact Nat.le_trans (by omega) (ih2 (p := q) (i := i) (by omega) k2 k3 (by simpa using hi'))
      exact ⟨h1, h2.setOther (by show b ≠ p.1; omega) u, ih h3 i hi'⟩
theorem Bxs.snoc {wx : World} {lo : Nat} {l : List (Nat × TypeId × List Value)} (h : Bxs wx lo l) (hlo : lo ≤ wx.heap.size) (cs : Array Value) (e : TypeId) :
    Bxs (wx.alloc (.cells cs e)) lo (l ++ [(wx.heap.size, e, cs.toList)]) := by
  induction l generalizing lo with
  | nil => exact ⟨hlo, Blk.newA wx e cs, trivial⟩
  | cons p l ih =>
    obtain ⟨h1, h2, h3⟩ := h
    exact ⟨h1, h2.alloc _, ih h3 h2.lt⟩

section
variable {w0 wx w' : World} {l : List (Nat × TypeId × List Value)}
theorem St.new (w0 : World) : St w0 w0 [] := ⟨Below.refl _ _, trivial⟩
theorem St.ext (h : St w0 wx l) (hb : Below wx.heap.size wx w') : St w0 w' l := ⟨h.1.trans (hb.mono h.1.size), h.2.imp (fun _ _ _ _ hk => hk.ext hb)⟩
theorem St.drew (h : St w0 wx l) : St w0 wx.drew l := ⟨h.1.drew, h.2.imp (fun _ _ _ _ hk => hk)⟩
theorem St.drewN (h : St w0 wx l) (n : Nat) : St w0 (wx.drewN n) l := ⟨⟨h.1.os, h.1.tape, h.1.output, h.1.size, h.1.block⟩, h.2.imp (fun _ _ _ _ hk => hk)⟩
theorem St.set (h : St w0 wx l) (i : Nat) {b : Nat} {e : TypeId} {cs : List Value} (hi : l[i]? = some (b, e, cs)) (k : Nat) (u : Value) :
    St w0 (wx.setCell ⟨b, k, none⟩ u) (l.set i (b, e, cs.set k u)) := by
  refine ⟨h.1.setCell ?_ u, h.2.set i hi k u⟩
  have : ∀ (lo : Nat) (l : List (Nat × TypeId × List Value)) (i : Nat), Bxs wx lo l → l[i]? = some (b, e, cs) → lo ≤ b := by
    intro lo l
    induction l generalizing lo with
    | nil => intro i _ hi; simp at hi
    | cons p l ih =>
      intro i h hi
      obtain ⟨h1, h2, h3⟩ := h
      cases i with
      | zero => simp at hi; subst hi; exact h1
      | succ i => exact Nat.le_trans (by omega) (ih _ i h3 (by simpa using hi))
  exact this _ _ i h.2 hi
theorem St.alloc (h : St w0 wx l) (cs : Array Value) (e : TypeId) : St w0 (wx.alloc (.cells cs e)) (l ++ [(wx.heap.size, e, cs.toList)]) :=
  ⟨h.1.alloc h.1.size _, h.2.snoc h.1.size cs e⟩
/-- A new block that nobody asks for again. -/
theorem St.alloc' (h : St w0 wx l) (o : Obj) : St w0 (wx.alloc o) l := ⟨h.1.alloc h.1.size _, h.2.imp (fun _ _ _ _ hk => hk.alloc o)⟩
/-- The cells of a block, told one by one. -/
def cellsAt (wx : World) (b : Nat) : Nat → List Value → Prop
  | _, [] => True
  | i, c :: cs => (wx.cell? ⟨b, i, none⟩ = some c ∧ wx.frozen? ⟨b, i, none⟩ = false) ∧ cellsAt wx b (i + 1) cs
def cellsAll (wx : World) : List (Nat × TypeId × List Value) → Prop
  | [] => True
  | (b, _, cs) :: l => cellsAt wx b 0 cs ∧ cellsAll wx l
theorem Blk.cellsAt {b : Nat} {e : TypeId} {cs : List Value} (h : Blk wx b e cs) : cellsAt wx b 0 cs := by
  have : ∀ (r : List Value) (i : Nat), cs.drop i = r → Go.Proofs.YtlloghbaggdhnaaDoor.cellsAt wx b i r := by
    intro r
    induction r with
    | nil => intro i _; trivial
    | cons c r ih =>
      intro i hi
      have hil : i < cs.length := by
        rcases Nat.lt_or_ge i cs.length with h' | h'
        · exact h'
        · rw [List.drop_eq_nil_of_le h'] at hi; cases hi
      rw [List.drop_eq_getElem_cons hil] at hi
      injection hi with h1 h2
      exact ⟨⟨by rw [h.cell i hil, h1], h.frozen i⟩, ih (i + 1) h2⟩
  exact this cs 0 rfl
theorem St.c (h : St w0 wx l) : cellsAll wx l := by
  have : ∀ lo (l : List (Nat × TypeId × List Value)), Bxs wx lo l → cellsAll wx l := by
    intro lo l
    induction l generalizing lo with
    | nil => intro _; trivial
    | cons p l ih => intro h; exact ⟨h.2.1.cellsAt, ih _ h.2.2⟩
  exact this _ _ h.2
/-- The last block is asked for no more. -/
theorem St.init {x : Nat × TypeId × List Value} (h : St w0 wx (l ++ [x])) : St w0 wx l := by
  refine ⟨h.1, ?_⟩
  have : ∀ lo (l : List (Nat × TypeId × List Value)), Bxs wx lo (l ++ [x]) → Bxs wx lo l := by
    intro lo l
    induction l generalizing lo with
    | nil => intro _; trivial
    | cons p l ih => intro h; exact ⟨h.1, h.2.1, ih _ h.2.2⟩
  exact this _ _ h.2
theorem St.blk (h : St w0 wx l) (i : Nat) {b : Nat} {e : TypeId} {cs : List Value} (hi : l[i]? = some (b, e, cs)) : Blk wx b e cs := by
  have : ∀ lo (l : List (Nat × TypeId × List Value)) (i : Nat), Bxs wx lo l → l[i]? = some (b, e, cs) → Blk wx b e cs := by
    intro lo l
    induction l generalizing lo with
    | nil => intro i _ hi; simp at hi
    | cons p l ih =>
      intro i h hi
      cases i with
      | zero => simp at hi; subst hi; exact h.2.1
      | succ i => exact ih _ i h.2.2 (by simpa using hi)
  exact this _ _ i h.2 hi
/-- The struct's three fields stored, one by one. -/
theorem St.put3 (h : St w0 wx l) (i : Nat) {b : Nat} {e : TypeId} {c0 c1 c2 : Value} (hi : l[i]? = some (b, e, [c0, c1, c2])) (u0 u1 u2 : Value) :
    St w0 (((wx.setCell ⟨b, 0, none⟩ u0).setCell ⟨b, 1, none⟩ u1).setCell ⟨b, 2, none⟩ u2) (l.set i (b, e, [u0, u1, u2])) := by
  have hl : i < l.length := by
    rcases Nat.lt_or_ge i l.length with h' | h'
    · exact h'
    · rw [List.getElem?_eq_none h'] at hi; cases hi
  have s1 := h.set i hi 0 u0
  have s2 := s1.set i (b := b) (e := e) (cs := [u0, c1, c2]) (by simp [hl]) 1 u1
  have s3 := s2.set i (b := b) (e := e) (cs := [u0, u1, c2]) (by simp [hl]) 2 u2
  simpa using s3
end
end Go.Proofs.YtlloghbaggdhnaaDoor
