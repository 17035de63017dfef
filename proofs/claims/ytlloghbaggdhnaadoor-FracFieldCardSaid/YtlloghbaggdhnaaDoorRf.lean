/- Ranges over functions: what abides the law's own book-keeping. No program in sight. No condition. -/
import Derived.Test.YtlloghbaggdhnaaDoorKit
import Derived.RangeFuncNested
import Derived.RangeFuncBound
import Derived.RangeFuncCalls
import Derived.RangeFuncLeaves
import Derived.Shelf.Abstract
import Derived.Shelf.RegionOpen
import Derived.OwnWalkIn
import Derived.TacticsInMore
import Derived.LoopNIn
import Derived.LoopIn
set_option linter.unusedVariables false
set_option linter.unusedSimpArgs false
namespace Go.Proofs.YtlloghbaggdhnaaDoor
open Go.RowKit

/-- All rows of cells lie as they lay. -/
def CellsKept (w w' : World) : Prop := ∀ (b : Nat) (c : Array Value) (e : TypeId) (f : Nat × Nat), w.heap[b]? = some (Obj.cells c e f) → w'.heap[b]? = some (Obj.cells c e f)
theorem CellsKept.refl (w : World) : CellsKept w w := fun _ _ _ _ h => h
theorem CellsKept.cell {w w' : World} (h : CellsKept w w') (a : Addr) (hv : w.cell? a ≠ none) : w'.cell? a = w.cell? a := by
  unfold World.cell? at hv ⊢
  cases hb : w.heap[a.block]? with
  | none => rw [hb] at hv; exact absurd rfl hv
  | some o =>
    rw [hb] at hv
    cases o with
    | cells c e f => rw [h _ _ _ _ hb]
    | _ => exact absurd rfl hv
theorem CellsKept.blk {w w' : World} (h : CellsKept w w') {b : Nat} {e : TypeId} {cs : List Value} (hb : Blk w b e cs) : Blk w' b e cs := h _ _ _ _ hb
theorem CellsKept.slice {w w' : World} (h : CellsKept w w') {v : Value} {size : Nat} {cs : List Value} (hs : SliceAt w v size cs) : SliceAt w' v size cs := hs.of_cells h.cell
theorem CellsKept.owns {w w' : World} (h : CellsKept w w') {base : Nat} {e : TypeId} {size n : Nat} {v : Value} {xs : List Value} (ho : w.ownsRow base e size v n xs) : w'.ownsRow base e size v n xs := by
  obtain ⟨hl, ho⟩ := ho
  refine ⟨hl, ?_⟩
  rcases ho with ho | ⟨g, cap, cur, rfl, h1, h2, h3⟩
  · exact .inl ho
  · exact .inr ⟨g, cap, cur, rfl, h1, h _ _ _ _ h2, h3⟩
/-- A turn of a block that is no cells: what it keeps. -/
theorem turn_kept {w w' : World} {row : Option Nat} (hg : w.grownBy w' row) (hr : ∀ r, row = some r → ∃ o : Obj, w.heap[r]? = some o ∧ o.isCells = false) : CellsKept w w' := by
  intro b c e f hb
  rw [hg.block b (Array.getElem?_eq_some_iff.1 hb).1 (fun hrow => ?_)]
  · exact hb
  · obtain ⟨o, ho, hc⟩ := hr b hrow.symm
    rw [hb] at ho; cases ho; cases hc
theorem turn_below {n₀ B : Nat} {w₀ w w' : World} {row : Option Nat} (h : Below n₀ w₀ w) (hn : n₀ ≤ w₀.heap.size) (hB : n₀ ≤ B) (hg : w.grownBy w' row) (hr : ∀ r, row = some r → B ≤ r ∧ ∃ o : Obj, w.heap[r]? = some o ∧ o.isCells = false) : Below n₀ w₀ w' :=
  h.grown hg (Nat.le_trans hn h.size) (fun k e => Nat.le_trans hB (hr k e).1)
/-- What is to be shown of a caller's invariant. -/
theorem ownFrom_of {β : Type} {n₀ B : Nat} {w₀ : World} (hn : n₀ ≤ w₀.heap.size) (hB : n₀ ≤ B) {I : β → World → Prop} (h : ∀ s W W', I s W → CellsKept W W' → I s W') : OwnFrom B (fun s W => I s W ∧ Below n₀ w₀ W) :=
  fun s W W' row hs hg hr => ⟨h s W W' hs.1 (turn_kept hg (fun r e => (hr r e).2)), turn_below hs.2 hn hB hg hr⟩
theorem putObj_cells {w : World} {l : Nat} {o : Obj} (o' : Obj) (hl : w.heap[l]? = some o) (ho : o.isCells = false) : CellsKept w (w.putObj l o') :=
  turn_kept (grownBy_putObj' w l o') (fun r e => by cases e; exact ⟨o, hl, ho⟩)
theorem below_putObj {n₀ l : Nat} {w₀ w : World} (h : Below n₀ w₀ w) (hl : n₀ ≤ l) (hw : n₀ ≤ w.heap.size) (o' : Obj) : Below n₀ w₀ (w.putObj l o') :=
  h.grown (grownBy_putObj' w l o') hw (fun k e => by cases e; exact hl)
/-- A call that leaves all that lay as it lay. -/
theorem keepsFrom_ext {B : Nat} {w w' : World} (h : Below w.heap.size w w') : KeepsFrom B w w' :=
  ⟨h.size, fun k o _ hk _ => (h.block k (Array.getElem?_eq_some_iff.1 hk).1).trans hk⟩
theorem keepsFrom_setCell (B : Nat) (w : World) (a : Addr) (v : Value) : KeepsFrom B w (w.setCell a v) := (KeepsOthers.setCell w a v).from B
theorem keepsFrom_alloc (B : Nat) (w : World) (o : Obj) : KeepsFrom B w (w.alloc o) := (KeepsOthers.alloc w o).from B
theorem keepsFrom_drew (B : Nat) (w : World) : KeepsFrom B w w.drew := (KeepsOthers.drew w).from B
/-- An append to a row of the call's own turns cells alone. -/
theorem keepsFrom_app {B base : Nat} {w w' : World} {e : TypeId} {size n : Nat} {v : Value} {xs : List Value} (ho : w.ownsRow base e size v n xs) (hg : w.grownBy w' v.ownBlock) : KeepsFrom B w w' := by
  refine ⟨hg.size, fun k o _ hk hc => (hg.block k (Array.getElem?_eq_some_iff.1 hk).1 (fun e => ?_)).trans hk⟩
  rcases ho.2 with ⟨rfl, _⟩ | ⟨g, cap, cur, rfl, _, hgb, _⟩
  · simp [Value.ownBlock] at e
  · obtain rfl : k = g := by simpa [Value.ownBlock] using e
    rw [hgb] at hk; cases hk; cases hc
/-- A block of another type is no row that is owned. -/
theorem Blk.not_row {w : World} {b : Nat} {t e : TypeId} {cs : List Value} (h : Blk w b t cs) (hte : t ≠ e) {base size n : Nat} {v : Value} {xs : List Value} (ho : w.ownsRow base e size v n xs) : some b ≠ v.ownBlock := by
  intro he
  rcases ho.2 with ⟨rfl, _⟩ | ⟨g, cap, cur, rfl, _, hgb, _⟩
  · simp [Value.ownBlock] at he
  · obtain rfl : b = g := by simpa [Value.ownBlock] using he
    unfold Blk at h
    rw [h] at hgb
    simp at hgb
    exact hte hgb.2
theorem owns_setCell {w : World} {b : Nat} {t e : TypeId} {cs : List Value} (h : Blk w b t cs) (hte : t ≠ e) {base size n : Nat} {v : Value} {xs : List Value} (ho : w.ownsRow base e size v n xs) (i : Nat) (u : Value) : (w.setCell ⟨b, i, none⟩ u).ownsRow base e size v n xs :=
  ho.kept (row := some b) ⟨rfl, rfl, rfl, by simp [World.setCell], fun k hk hne => Below.heap_setCell _ _ _ _ (fun e => hne (by rw [e]))⟩ (.inr (h.not_row hte ho).symm)
/-- What a round keeps: all below n₀, and one cell (the iterator's own variable). -/
def KeepBox (n₀ Bn : Nat) (A B : World) : Prop := Below n₀ A B ∧ ∀ v, A.cell? ⟨Bn, 0, none⟩ = some v → B.cell? ⟨Bn, 0, none⟩ = some v
theorem keepBox_t {n₀ Bn : Nat} {A B C : World} (h : KeepBox n₀ Bn A B) (k : KeepBox n₀ Bn B C) : KeepBox n₀ Bn A C := ⟨h.1.trans k.1, fun v hv => k.2 v (h.2 v hv)⟩
theorem keepBox_b {n₀ Bn : Nat} {w : World} (hn : n₀ ≤ w.heap.size) (W : World) (l : Nat) (o o' : Obj) (hl : w.heap.size ≤ l) (h : W.heap[l]? = some o) (hc : o.isCells = false) (hw : o.isWalk = false) : KeepBox n₀ Bn W (W.putObj l o') :=
  ⟨belowK_b hn W l o o' hl h hc hw, fun v hv => by rw [(putObj_cells o' h hc).cell _ (by rw [hv]; simp)]; exact hv⟩
theorem keepBox_of {n₀ Bn : Nat} {t : TypeId} {s : Value} {A B : World} (h : Below n₀ A B) (ha : Blk A Bn t [s]) (hb : Blk B Bn t [s]) : KeepBox n₀ Bn A B :=
  ⟨h, fun v hv => by rw [ha.cell 0 (by simp)] at hv; rw [hb.cell 0 (by simp)]; exact hv⟩
theorem keepBox_refl (n₀ Bn : Nat) (w : World) : KeepBox n₀ Bn w w := ⟨Below.refl _ _, fun _ h => h⟩
/-- The same append in a fence. -/
theorem wpListIn_app {F : Fence} {k : Nat} {P : Program} {w : World} {ops : Array Oper} {rest : List Oper} {o : Oper} {a : Act} {Q : Exit → Act → World → Prop} (hgd : o.guard = none) (s x : Operand) (t : TypeId)
    (ho : o.op = .call { callee := .builtin .append, args := #[s, x], argTypes := #[t, t] }) (base : Nat) {e size bytes : Nat} {z : Value} (E : ElemT P t e size bytes z)
    (v : Value) (n : Nat) (xs : List Value) (hs : a.eval s = v) (hown : w.ownsRow base e size v n xs) (y : Value) (hy : a.eval x = y) (m : Nat) (news : List Value) (hx : SliceAt w y size news) (hl : news.length = m * size) (h1 : ∀ u ∈ news, u.oneCell' = true)
    (hbytes : (n + m) * bytes ≤ 140737488355328) (hb0 : 0 < bytes) (hbase : base ≤ w.heap.size)
    (h : ∀ v' w', w'.ownsRow base e size v' (n + m) (xs ++ news) → w.grownBy w' v.ownBlock → wpListIn F k P ops Q rest (a.put o.dst v') w') : wpListIn F k P ops Q (o :: rest) a w := by
  obtain ⟨v', w', hrun, r1, r2⟩ := run_app t o.type base E v n xs hown y m news hx hl h1 hbytes hb0 hbase
  refine wpListIn_plain hgd fun K hK => ?_
  unfold Oper.wpIn
  refine ⟨?_, ?_⟩
  · simp [Oper.about, ho, resolve, Target.leads, Sem.run_pure]
  · rw [Oper.semAt_plain F _ _ (by rw [ho]; intro c hc'; cases hc')]
    simp [execOp, ho, resolve, invoke, builtin, hs, hy, hrun, Result.andThen]
    exact hK _ _ (h v' w' r1 r2)
end Go.Proofs.YtlloghbaggdhnaaDoor
