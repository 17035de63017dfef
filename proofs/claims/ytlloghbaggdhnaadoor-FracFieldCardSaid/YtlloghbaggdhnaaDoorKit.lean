/- Words on memory for the walks: a block known whole (Blk), a slice that reads as a list of cells (SliceAt), and how both are kept. No program in sight. No condition. -/
import Derived.WalkKit
import Derived.Below
import Derived.WalkSmall
import Derived.Outline
import Derived.Lib.Hide
import Derived.Deep.DeepMust
import Derived.Lib.ConvBytes
import Derived.Laws.BytesArg
import Derived.Laws.AppendOwnNone
import Derived.OneCell
import Derived.Laws.BitsAllLaws
set_option linter.unusedVariables false
set_option linter.unusedSimpArgs false
namespace Go.Proofs.YtlloghbaggdhnaaDoor
open Go.RowKit

theorem ret_str {a b : ByteArray} (h : a = b) : Ending.returned (.string a) = .returned (.string b) := by rw [h]
theorem ret_bool {a b : Bool} (h : a = b) : Ending.returned (.bool a) = .returned (.bool b) := by rw [h]
theorem ret_int {k : IntKind} {a b : Int} (h : a = b) : Ending.returned (.int k a) = .returned (.int k b) := by rw [h]
theorem int_val {k : IntKind} {a b : Int} (h : a = b) : Value.int k a = .int k b := by rw [h]

/-! ### Bits -/
theorem or_shift (m b i : Nat) (hb : b < 2 ^ i) : m * 2 ^ i ||| b = m * 2 ^ i + b := by
  rw [← Nat.shiftLeft_eq, Nat.shiftLeft_add_eq_or_of_lt hb]
theorem u64_or8 (m b : Nat) (hb : b < 256) (hm : m < 72057594037927936) : bits .or .u64 ((m : Int) * 256) (b : Int) = ((m * 256 + b : Nat) : Int) := by
  have h := u64_or_nat (m * 256) b (by omega) (by omega)
  rw [or_shift m b 8 hb] at h
  have e : (m : Int) * 256 = ((m * 256 : Nat) : Int) := by rw [Int.natCast_mul]; rfl
  rw [e, h]
theorem u32_or8 (m b : Nat) (hb : b < 256) (hm : m < 16777216) : bits .or .u32 ((m : Int) * 256) (b : Int) = ((m * 256 + b : Nat) : Int) := by
  have h := u32_or_nat (m * 256) b (by omega) (by omega)
  rw [or_shift m b 8 hb] at h
  have e : (m : Int) * 256 = ((m * 256 : Nat) : Int) := by rw [Int.natCast_mul]; rfl
  rw [e, h]

/-! ### A block known whole -/
def Blk (w : World) (b : Nat) (e : TypeId) (cs : List Value) : Prop := w.heap[b]? = some (.cells cs.toArray e (0, 0))

section
variable {w w' : World} {b : Nat} {e : TypeId} {cs : List Value}
theorem Blk.lt (h : Blk w b e cs) : b < w.heap.size := (Array.getElem?_eq_some_iff.1 h).1
theorem Blk.cell? (h : Blk w b e cs) (i : Nat) : w.cell? ⟨b, i, none⟩ = cs[i]? := by
  unfold World.cell?
  rw [show w.heap[(⟨b, i, none⟩ : Addr).block]? = some (.cells cs.toArray e (0, 0)) from h]
  simp
theorem Blk.cell (h : Blk w b e cs) (i : Nat) (hi : i < cs.length) : w.cell? ⟨b, i, none⟩ = some cs[i] := by rw [h.cell?, List.getElem?_eq_getElem hi]
theorem Blk.frozen (h : Blk w b e cs) (i : Nat) : w.frozen? ⟨b, i, none⟩ = false := by
  unfold World.frozen?
  rw [show w.heap[(⟨b, i, none⟩ : Addr).block]? = some (.cells cs.toArray e (0, 0)) from h]
  simp
theorem Blk.set (h : Blk w b e cs) (i : Nat) (u : Value) : Blk (w.setCell ⟨b, i, none⟩ u) b e (cs.set i u) := by
  unfold Blk at h ⊢
  simp only [World.setCell, Array.getElem?_modify, if_true]
  rw [h]
  simp
theorem Blk.of_block (h : Blk w b e cs) (hb : w'.heap[b]? = w.heap[b]?) : Blk w' b e cs := by unfold Blk at *; rw [hb]; exact h
theorem Blk.setOther (h : Blk w b e cs) {a : Addr} (ha : a.block ≠ b) (u : Value) : Blk (w.setCell a u) b e cs := h.of_block (Below.heap_setCell w a u b (Ne.symm ha))
theorem Blk.alloc (h : Blk w b e cs) (o : Obj) : Blk (w.alloc o) b e cs := h.of_block (Below.heap_alloc w o b h.lt)
theorem Blk.drew (h : Blk w b e cs) : Blk w.drew b e cs := h
theorem Blk.drewN (h : Blk w b e cs) (n : Nat) : Blk (w.drewN n) b e cs := h
theorem Blk.below {B : Nat} (h : Blk w b e cs) (hb : Below B w w') (hB : b < B) : Blk w' b e cs := h.of_block (hb.block b hB)
theorem Blk.ext (h : Blk w b e cs) (hb : Below w.heap.size w w') : Blk w' b e cs := h.below hb h.lt
theorem Blk.grown {row : Option Nat} (h : Blk w b e cs) (hg : w.grownBy w' row) (hr : some b ≠ row) : Blk w' b e cs := h.of_block (hg.block b h.lt hr)
theorem Blk.new (w : World) (e : TypeId) (cs : List Value) : Blk (w.alloc (.cells cs.toArray e)) w.heap.size e cs := by
  unfold Blk; show (w.heap.push _)[w.heap.size]? = _; simp
theorem Blk.newA (w : World) (e : TypeId) (a : Array Value) : Blk (w.alloc (.cells a e)) w.heap.size e a.toList := by
  unfold Blk; show (w.heap.push _)[w.heap.size]? = _; simp
end

/-! ### A slice that reads as a list of cells -/
def SliceAt (w : World) (v : Value) (size : Nat) (cs : List Value) : Prop :=
  ∃ n cap, n ≤ maxLen ∧ n ≤ cap ∧ cap ≤ maxLen ∧ cs.length = n * size ∧ ((n = 0 ∧ ∃ a, v = .slice a 0 cap) ∨ ∃ b off, v = .slice (some ⟨b, off, none⟩) n cap ∧ ∀ j (h : j < cs.length), w.cell? ⟨b, off + j, none⟩ = some cs[j])

theorem SliceAt.nil (w : World) (size : Nat) : SliceAt w (.slice none 0 0) size [] := ⟨0, 0, by simp [maxLen], Nat.le_refl _, by simp [maxLen], by simp, .inl ⟨rfl, none, rfl⟩⟩
theorem SliceAt.of_cells {w w' : World} {v : Value} {size : Nat} {cs : List Value} (h : SliceAt w v size cs) (hc : ∀ a, w.cell? a ≠ none → w'.cell? a = w.cell? a) : SliceAt w' v size cs := by
  obtain ⟨n, cap, h1, h2, h3, h4, h5⟩ := h
  refine ⟨n, cap, h1, h2, h3, h4, ?_⟩
  rcases h5 with h5 | ⟨b, off, rfl, h5⟩
  · exact .inl h5
  · exact .inr ⟨b, off, rfl, fun j hj => by rw [hc _ (by rw [h5 j hj]; simp)]; exact h5 j hj⟩
theorem ext_cell {w w' : World} (hb : Below w.heap.size w w') (a : Addr) (h : w.cell? a ≠ none) : w'.cell? a = w.cell? a := by
  cases hv : w.cell? a with
  | none => exact absurd hv h
  | some v => rw [← hv]; exact hb.cell (World.block_lt_of_cell? w a hv)
theorem SliceAt.ext {w w' : World} {v : Value} {size : Nat} {cs : List Value} (h : SliceAt w v size cs) (hb : Below w.heap.size w w') : SliceAt w' v size cs := h.of_cells (ext_cell hb)
/-- What is owned can be read. -/
theorem SliceAt.owned {w : World} {base : Nat} {e : TypeId} {size n : Nat} {v : Value} {cs : List Value} (h : w.ownsRow base e size v n cs) : SliceAt w v size cs := by
  obtain ⟨hl, h⟩ := h
  rcases h with ⟨rfl, rfl⟩ | ⟨g, cap, cur, rfl, _, hg, hn, hm, hs, ht⟩
  · exact ⟨0, 0, by simp [maxLen], Nat.le_refl _, by simp [maxLen], hl, .inl ⟨rfl, none, rfl⟩⟩
  · refine ⟨n, cap, Nat.le_trans hn hm, hn, hm, hl, .inr ⟨g, 0, rfl, fun j hj => ?_⟩⟩
    have hj' : (cur.toList.take (n * size))[j]? = some cs[j] := by rw [ht]; exact List.getElem?_eq_getElem hj
    rw [List.getElem?_take] at hj'
    unfold World.cell?
    rw [show w.heap[(⟨g, 0 + j, none⟩ : Addr).block]? = some (.cells cur e (0, 0)) from hg]
    split at hj'
    · simpa using hj'
    · cases hj'

/-- The slice lies in blocks from B on (or is empty). -/
def FreshV (B : Nat) (v : Value) : Prop := ∀ a n c, v = .slice (some a) n c → 0 < n → B ≤ a.block
theorem FreshV.mono {B B' : Nat} {v : Value} (h : FreshV B v) (hB : B' ≤ B) : FreshV B' v := fun a n c e h0 => Nat.le_trans hB (h a n c e h0)
theorem FreshV.nil (B : Nat) : FreshV B (.slice none 0 0) := fun a n c e h0 => by cases e
theorem FreshV.owned {w : World} {base : Nat} {e : TypeId} {size n : Nat} {v : Value} {cs : List Value} (h : w.ownsRow base e size v n cs) : FreshV base v := fun a m c hv h0 => by
  rcases h.2 with ⟨rfl, _⟩ | ⟨g, cap, cur, rfl, hb, _⟩
  · cases hv
  · cases hv; exact hb
theorem FreshV.at {B b off n c : Nat} (h : B ≤ b) : FreshV B (.slice (some ⟨b, off, none⟩) n c) := fun a m c' e _ => by cases e; exact h
theorem SliceAt.setOther {w : World} {v : Value} {size : Nat} {cs : List Value} (h : SliceAt w v size cs) {B : Nat} (hf : FreshV B v) {a : Addr} (ha : a.block < B) (u : Value) : SliceAt (w.setCell a u) v size cs := by
  obtain ⟨n, cap, h1, h2, h3, h4, h5⟩ := h
  refine ⟨n, cap, h1, h2, h3, h4, ?_⟩
  by_cases h0 : n = 0
  · rcases h5 with h5 | ⟨b, off, rfl, h5⟩
    · exact .inl h5
    · exact .inl ⟨h0, _, by rw [h0]⟩
  · rcases h5 with h5 | ⟨b, off, rfl, h5⟩
    · exact .inl h5
    · have hb := hf _ _ _ rfl (by omega)
      exact .inr ⟨b, off, rfl, fun j hj => by rw [World.cell?_of_block (Below.heap_setCell w a u b (by simp at hb; omega))]; exact h5 j hj⟩
/-- The length of a slice in a slot: a measure. -/
def sliceLen : Value → Nat | .slice _ n _ => n | _ => 0
theorem SliceAt.len {w : World} {v : Value} {size : Nat} {cs : List Value} (h : SliceAt w v size cs) : sliceLen v * size = cs.length := by
  obtain ⟨n, cap, _, _, _, hl, h⟩ := h
  rcases h with ⟨rfl, a, rfl⟩ | ⟨b, off, rfl, _⟩
  · rw [hl]; rfl
  · exact hl.symm
/-- A slice of one-cell elements, opened: the length, and each cell under its condition. -/
theorem SliceAt.open1 {α : Type} [Inhabited α] {w : World} {v : Value} {l : List α} {f : α → Value} (h : SliceAt w v 1 (l.map f)) :
    ∃ a cap, v = .slice a l.length cap ∧ l.length ≤ cap ∧ cap ≤ maxLen ∧ ∀ i, i < l.length → ∃ b off, a = some ⟨b, off, none⟩ ∧ w.cell? ⟨b, off + i, none⟩ = some (f (l.getD i default)) := by
  obtain ⟨n, cap, hm, hnc, hcm, hn, h⟩ := h
  have hl : l.length = n := by simpa using hn
  subst hl
  rcases h with ⟨h0, a, rfl⟩ | ⟨b, off, rfl, hc⟩
  · exact ⟨a, cap, by rw [h0], hnc, hcm, fun i hi => by omega⟩
  · refine ⟨_, cap, rfl, hnc, hcm, fun i hi => ⟨b, off, rfl, ?_⟩⟩
    rw [hc i (by simpa using hi)]
    simp [List.getD_eq_getElem?_getD, List.getElem?_eq_getElem hi]

theorem grown_set {w w' : World} {b : Nat} (h : w.grownBy w' (some b)) (i : Nat) (u : Value) : w.grownBy (w'.setCell ⟨b, i, none⟩ u) (some b) :=
  ⟨h.os, h.tape, h.output, by have := h.size; simpa [World.setCell] using this, fun k hk hne => (Below.heap_setCell _ _ _ _ (fun e => hne (by rw [e]))).trans (h.block k hk hne)⟩
theorem grown_drew {w w' : World} {r : Option Nat} (h : w.grownBy w' r) : w.grownBy w'.drew r := ⟨h.os, h.tape, h.output, h.size, h.block⟩
theorem grown_refl (w : World) (r : Option Nat) : w.grownBy w r := ⟨rfl, rfl, rfl, Nat.le_refl _, fun _ _ _ => rfl⟩

/-! ### Slice expressions -/
section
variable {P : Program}
theorem run_sb (k : IntKind) (i : Int) (y : Nat) (code : BoundsCode) (w : World) (h0 : 0 ≤ i) (h1 : i ≤ y) : (Instr.sliceBound (.int k i) y code).run P w = .ok i.toNat w := run_sliceBound w k i y code h0 h1

theorem sl_win {w : World} {a : Option Addr} {n cap : Nat} {cs : List Value} {size : Nat} (hm : n ≤ maxLen) (hnc : n ≤ cap) (hcm : cap ≤ maxLen) (hl : cs.length = n * size)
    (hc : n = 0 ∨ ∃ b off, a = some ⟨b, off, none⟩ ∧ ∀ j (h : j < cs.length), w.cell? ⟨b, off + j, none⟩ = some cs[j]) (lo hi : Nat) (h1 : lo ≤ hi) (h2 : hi ≤ n) :
    SliceAt w (sliced a lo hi cap size) size ((cs.drop (lo * size)).take ((hi - lo) * size)) := by
  have hlen : ((cs.drop (lo * size)).take ((hi - lo) * size)).length = (hi - lo) * size := by
    rw [List.length_take, List.length_drop, hl]
    have : (hi - lo) * size ≤ n * size - lo * size := by rw [← Nat.sub_mul]; exact Nat.mul_le_mul_right _ (by omega)
    omega
  refine ⟨hi - lo, cap - lo, by omega, by omega, by omega, hlen, ?_⟩
  unfold sliced
  by_cases h0 : hi - lo = 0
  · left; exact ⟨h0, _, by rw [h0]⟩
  · right
    rcases hc with hc | ⟨b, off, rfl, hc⟩
    · omega
    · rw [if_neg (by omega)]
      refine ⟨b, off + lo * size, ?_, fun j hj => ?_⟩
      · simp only [Option.map_some, Addr.add]
        split
        · simp_all
        · rfl
      · rw [hlen] at hj
        have hb : lo * size + j < cs.length := by
          rw [hl]
          have := Nat.mul_le_mul_right size h2
          have e : (hi - lo) * size = hi * size - lo * size := Nat.sub_mul _ _ _
          omega
        rw [Nat.add_assoc, hc _ hb]
        simp

theorem fresh_sliced {B : Nat} {a : Option Addr} {m cap lo hi size : Nat} (hf : FreshV B (.slice a m cap)) (hm : hi ≤ m) : FreshV B (sliced a lo hi cap size) := by
  intro ad n c e h0
  unfold sliced at e
  cases a with
  | none => simp at e
  | some a =>
    injection e with e1 e2 e3
    have : ad.block = a.block := by
      split at e1
      · injection e1 with e1; rw [e1]
      · simp at e1; rw [← e1]; unfold Addr.add; split <;> rfl
    rw [this]
    exact hf a m cap rfl (by omega)

variable {t e size : Nat}
/-- s[lo:hi] of a slice, at most up to its end. -/
theorem slice_lh {w : World} {v : Value} {cs : List Value} {n : Nat} (ht : P.underlying t = some (.slice e)) (hz : ∀ w, (Go.sizeOf e).run P w = .ok size w) (h : SliceAt w v size cs) (hn : cs.length = n * size) (hs : 0 < size) (lo hi : Nat) (h1 : lo ≤ hi) (h2 : hi ≤ n) :
    ∃ v', (∀ w1, (Instr.slice t v (some (.int .i64 lo)) (some (.int .i64 hi)) none).run P w1 = .ok v' w1) ∧ SliceAt w v' size ((cs.drop (lo * size)).take ((hi - lo) * size)) ∧ ∀ B, FreshV B v → FreshV B v' := by
  obtain ⟨m, cap, hm, hnc, hcm, hl, h⟩ := h
  obtain rfl : m = n := Nat.eq_of_mul_eq_mul_right hs (by omega)
  have he : P.elem t = e := by simp [Program.elem, ht]
  have ht' : P.underlying t = some (.slice (P.elem t)) := by rw [he]; exact ht
  have key : ∃ a, v = .slice a m cap ∧ (m = 0 ∨ ∃ b off, a = some ⟨b, off, none⟩ ∧ ∀ j (h : j < cs.length), w.cell? ⟨b, off + j, none⟩ = some cs[j]) := by
    rcases h with ⟨h0, a, rfl⟩ | ⟨b, off, rfl, hc⟩
    · exact ⟨a, by rw [h0], .inl h0⟩
    · exact ⟨_, rfl, .inr ⟨b, off, rfl, hc⟩⟩
  obtain ⟨a, rfl, hc⟩ := key
  refine ⟨_, fun w1 => ?_, sl_win hm hnc hcm hl hc lo hi h1 h2, fun B hf => fresh_sliced hf (by omega)⟩
  rw [run_slice_lh w1 t a m cap ht' .i64 .i64 lo hi (by omega) (by omega) (by omega), he, hz]
  rfl
/-- s[lo:]. -/
theorem slice_l {w : World} {v : Value} {cs : List Value} {n : Nat} (ht : P.underlying t = some (.slice e)) (hz : ∀ w, (Go.sizeOf e).run P w = .ok size w) (h : SliceAt w v size cs) (hn : cs.length = n * size) (hs : 0 < size) (lo : Nat) (h1 : lo ≤ n) :
    ∃ v', (∀ w1, (Instr.slice t v (some (.int .i64 lo)) none none).run P w1 = .ok v' w1) ∧ SliceAt w v' size (cs.drop (lo * size)) ∧ ∀ B, FreshV B v → FreshV B v' := by
  obtain ⟨m, cap, hm, hnc, hcm, hl, h⟩ := h
  obtain rfl : m = n := Nat.eq_of_mul_eq_mul_right hs (by omega)
  have he : P.elem t = e := by simp [Program.elem, ht]
  have ht' : P.underlying t = some (.slice (P.elem t)) := by rw [he]; exact ht
  have key : ∃ a, v = .slice a m cap ∧ (m = 0 ∨ ∃ b off, a = some ⟨b, off, none⟩ ∧ ∀ j (h : j < cs.length), w.cell? ⟨b, off + j, none⟩ = some cs[j]) := by
    rcases h with ⟨h0, a, rfl⟩ | ⟨b, off, rfl, hc⟩
    · exact ⟨a, by rw [h0], .inl h0⟩
    · exact ⟨_, rfl, .inr ⟨b, off, rfl, hc⟩⟩
  obtain ⟨a, rfl, hc⟩ := key
  have hw := sl_win hm hnc hcm hl hc lo m h1 (Nat.le_refl _)
  rw [List.take_of_length_le (by rw [List.length_drop, hl, Nat.sub_mul]; omega)] at hw
  refine ⟨_, fun w1 => ?_, hw, fun B hf => fresh_sliced hf (by omega)⟩
  rw [run_slice_l w1 t a m cap ht' .i64 lo (by omega) (by omega), he, hz]
  rfl
/-- s[:hi]. -/
theorem slice_h {w : World} {v : Value} {cs : List Value} {n : Nat} (ht : P.underlying t = some (.slice e)) (hz : ∀ w, (Go.sizeOf e).run P w = .ok size w) (h : SliceAt w v size cs) (hn : cs.length = n * size) (hs : 0 < size) (hi : Nat) (h2 : hi ≤ n) :
    ∃ v', (∀ w1, (Instr.slice t v none (some (.int .i64 hi)) none).run P w1 = .ok v' w1) ∧ SliceAt w v' size (cs.take (hi * size)) ∧ ∀ B, FreshV B v → FreshV B v' := by
  obtain ⟨m, cap, hm, hnc, hcm, hl, h⟩ := h
  obtain rfl : m = n := Nat.eq_of_mul_eq_mul_right hs (by omega)
  have he : P.elem t = e := by simp [Program.elem, ht]
  have ht' : P.underlying t = some (.slice (P.elem t)) := by rw [he]; exact ht
  have key : ∃ a, v = .slice a m cap ∧ (m = 0 ∨ ∃ b off, a = some ⟨b, off, none⟩ ∧ ∀ j (h : j < cs.length), w.cell? ⟨b, off + j, none⟩ = some cs[j]) := by
    rcases h with ⟨h0, a, rfl⟩ | ⟨b, off, rfl, hc⟩
    · exact ⟨a, by rw [h0], .inl h0⟩
    · exact ⟨_, rfl, .inr ⟨b, off, rfl, hc⟩⟩
  obtain ⟨a, rfl, hc⟩ := key
  have hw := sl_win hm hnc hcm hl hc 0 hi (Nat.zero_le _) h2
  simp only [Nat.zero_mul, List.drop_zero, Nat.sub_zero] at hw
  refine ⟨_, fun w1 => ?_, hw, fun B hf => fresh_sliced hf (by omega)⟩
  rw [run_slice_h w1 t a m cap ht' .i64 hi (by omega) (by omega), he, hz]
  rfl
/-- b[lo:] of an array in a block. -/
theorem slice_arr_l {w : World} {b ty n : Nat} {cs : List Value} (ht : P.underlying t = some (.array n e)) (hz : ∀ w, (Go.sizeOf e).run P w = .ok size w) (hblk : Blk w b ty cs) (hn : cs.length = n * size) (hm : n ≤ maxLen) (lo : Nat) (h1 : lo ≤ n) :
    ∃ v', (∀ w1, (Instr.sliceAt t (.pointer (some ⟨b, 0, none⟩)) (some (.int .i64 lo)) none none).run P w1 = .ok v' w1) ∧ SliceAt w v' size (cs.drop (lo * size)) := by
  have he : P.elem t = e := by simp [Program.elem, ht]
  have hal : P.arrayLen t = n := by simp [Program.arrayLen, ht]
  have ht' : P.underlying t = some (.array (P.arrayLen t) (P.elem t)) := by rw [he, hal]; exact ht
  have hw := sl_win (w := w) (a := some ⟨b, 0, none⟩) (n := n) (cap := n) (cs := cs) (size := size) hm (Nat.le_refl _) hm hn (.inr ⟨b, 0, rfl, fun j hj => by rw [Nat.zero_add]; exact hblk.cell j hj⟩) lo n h1 (Nat.le_refl _)
  rw [List.take_of_length_le (by rw [List.length_drop, hn, Nat.sub_mul]; omega)] at hw
  refine ⟨_, fun w1 => ?_, hw⟩
  rw [run_sliceAt_array_l w1 t ⟨b, 0, none⟩ ht' .i64 lo (by omega) (by omega), he, hal, hz]
  simp only [Result.andThen, slicedAt, sliced, Int.toNat_natCast]
  split <;> simp_all
end

section
variable {P : Program}
theorem str_lh {t : TypeId} (ht : P.underlying t = some .string) (s : ByteArray) (lo hi : Nat) (h1 : lo ≤ hi) (h2 : hi ≤ s.size) (w1 : World) :
    (Instr.slice t (.string s) (some (.int .i64 lo)) (some (.int .i64 hi)) none).run P w1 = .ok (.string (s.extract lo hi)) w1 := by
  rw [run_slice_string w1 t s .i64 .i64 _ _ ht (by omega) (by omega) (by omega)]
  simp
end

/-! ### Append and make on slices of the call's own -/
/-- What is known of a slice type t with elements of type e: cells and bytes of an element, its zero. -/
structure ElemT (P : Program) (t e size bytes : Nat) (z : Value) : Prop where
  ht : P.underlying t = some (.slice e)
  hi : ∃ i, P.info? e = some i ∧ i.zero = some z ∧ i.size = size ∧ i.bytes = bytes
  hzs : z.cells.size = size
  hsz : 0 < size
theorem ElemT.mk' {P : Program} {t e size bytes : Nat} {z : Value} (ht : P.underlying t = some (.slice e)) (hi : (P.info? e).map (fun i => (i.zero, i.size, i.bytes)) = some (some z, size, bytes)) (hzs : z.cells.size = size) (hsz : 0 < size) : ElemT P t e size bytes z := by
  refine ⟨ht, ?_, hzs, hsz⟩
  cases h : P.info? e with
  | none => rw [h] at hi; simp at hi
  | some i => rw [h] at hi; simp at hi; exact ⟨i, rfl, hi.1, hi.2.1, hi.2.2⟩
theorem ElemT.sz {P : Program} {t e size bytes : Nat} {z : Value} (E : ElemT P t e size bytes z) : ∀ w, (Go.sizeOf e).run P w = .ok size w := by
  obtain ⟨i, hi, _, hs, _⟩ := E.hi
  intro w
  simp [Go.sizeOf, typeInfo, hi, hs]
theorem SliceAt.lit (w : World) (e : TypeId) (n : Nat) (size : Nat) (a : Array Value) (hn : a.size = n * size) (hm : n ≤ maxLen) : SliceAt (w.alloc (.cells a e)) (.slice (some ⟨w.heap.size, 0, none⟩) n n) size a.toList :=
  ⟨n, n, hm, Nat.le_refl _, hm, by simpa using hn, .inr ⟨_, 0, rfl, fun j hj => by rw [Nat.zero_add]; exact (Blk.newA w e a).cell j hj⟩⟩

theorem le_alloc {n : Nat} {w : World} (h : n ≤ w.heap.size) (o : Obj) : n ≤ (w.alloc o).heap.size := Nat.le_trans h (by simp)
theorem owns_shape {w : World} {base : Nat} {e : TypeId} {size n : Nat} {v : Value} {xs : List Value} (h : w.ownsRow base e size v n xs) : ∃ a c, v = .slice a n c := by
  rcases h.2 with ⟨rfl, rfl⟩ | ⟨g, cap, cur, rfl, _⟩
  · exact ⟨_, _, rfl⟩
  · exact ⟨_, _, rfl⟩
theorem one_int (k : IntKind) (n : Int) : ∀ u ∈ [Value.int k n], u.oneCell' = true := by simp [Value.oneCell']
/-- append(s, x...), s of the call's own, x whatever can be read: the run. -/
theorem run_app {P : Program} {w : World} (t ty : TypeId) (base : Nat) {e size bytes : Nat} {z : Value} (E : ElemT P t e size bytes z)
    (v : Value) (n : Nat) (xs : List Value) (hown : w.ownsRow base e size v n xs) (y : Value) (m : Nat) (news : List Value) (hx : SliceAt w y size news) (hl : news.length = m * size) (h1 : ∀ u ∈ news, u.oneCell' = true)
    (hbytes : (n + m) * bytes ≤ 140737488355328) (hb0 : 0 < bytes) (hbase : base ≤ w.heap.size) :
    ∃ v' w', (Builtin.append_ #[t, t] ty #[v, y]).run P w = .ok v' w' ∧ w'.ownsRow base e size v' (n + m) (xs ++ news) ∧ w.grownBy w' v.ownBlock := by
  obtain ⟨i, hi, hz, hsz, hby⟩ := E.hi
  have hnm : n + m ≤ maxLen := by
    have := Nat.le_mul_of_pos_right (n + m) hb0
    unfold maxLen; omega
  obtain ⟨k, cap, _, _, _, hk, hc⟩ := hx
  obtain rfl : k = m := Nat.eq_of_mul_eq_mul_right E.hsz (by omega)
  have key : ∀ ad, y = .slice (some ad) k cap → (∀ j u, news[j]? = some u → w.cell? (ad.add j) = some u) → ∃ v' w', (Builtin.append_ #[t, t] ty #[v, y]).run P w = .ok v' w' ∧ w'.ownsRow base e size v' (n + k) (xs ++ news) ∧ w.grownBy w' v.ownBlock := fun ad hya hnews => by
    obtain ⟨v', w', a0, a1, a2, _⟩ := run_append_own (P := P) w base t ty e i z size bytes E.ht hi hz hsz hby E.hzs E.hsz v n xs hown ad k cap news hl hnews h1 hnm hbytes hbase
    exact ⟨v', w', by rw [hya]; exact a0, a1, a2⟩
  rcases hc with ⟨rfl, ad, rfl⟩ | ⟨b, off, rfl, hc⟩
  · have hnil : news = [] := List.eq_nil_of_length_eq_zero (by simpa using hl)
    subst hnil
    cases ad with
    | some ad => exact key ad rfl (fun j u hj => by simp at hj)
    | none =>
      refine ⟨v, w, ?_, by simpa using hown, ⟨rfl, rfl, rfl, Nat.le_refl _, fun _ _ _ => rfl⟩⟩
      rcases hown.2 with ⟨rfl, rfl⟩ | ⟨g, cp, cur, rfl, _, _, hcp, _⟩
      · simp [Builtin.append_, run_underlying E.ht, sizeOf, typeInfo, hi, Builtin.lenOf, Builtin.firstCells]
      · simp [Builtin.append_, run_underlying E.ht, sizeOf, typeInfo, hi, Builtin.lenOf, Builtin.firstCells, hcp, storeCells]
  · refine key ⟨b, off, none⟩ rfl fun j u hj => ?_
    have hadd : (⟨b, off, none⟩ : Addr).add j = ⟨b, off + j, none⟩ := by unfold Addr.add; split <;> simp_all
    have hjl : j < news.length := by
      rcases Nat.lt_or_ge j news.length with h | h
      · exact h
      · rw [List.getElem?_eq_none h] at hj; cases hj
    rw [hadd, hc j hjl, ← hj, List.getElem?_eq_getElem hjl]
theorem wpList_app {P : Program} {w : World} {ops : Array Oper} {rest : List Oper} {o : Oper} {a : Act} {Q : Exit → Act → World → Prop} (hgd : o.guard = none) (s x : Operand) (t : TypeId)
    (ho : o.op = .call { callee := .builtin .append, args := #[s, x], argTypes := #[t, t] }) (base : Nat) {e size bytes : Nat} {z : Value} (E : ElemT P t e size bytes z)
    (v : Value) (n : Nat) (xs : List Value) (hs : a.eval s = v) (hown : w.ownsRow base e size v n xs) (y : Value) (hy : a.eval x = y) (m : Nat) (news : List Value) (hx : SliceAt w y size news) (hl : news.length = m * size) (h1 : ∀ u ∈ news, u.oneCell' = true)
    (hbytes : (n + m) * bytes ≤ 140737488355328) (hb0 : 0 < bytes) (hbase : base ≤ w.heap.size)
    (h : ∀ v' w', w'.ownsRow base e size v' (n + m) (xs ++ news) → w.grownBy w' v.ownBlock → wpList P ops Q rest (a.put o.dst v') w') : wpList P ops Q (o :: rest) a w := by
  obtain ⟨v', w', hrun, r1, r2⟩ := run_app t o.type base E v n xs hown y m news hx hl h1 hbytes hb0 hbase
  refine wpList_plain hgd fun K hK => ?_
  unfold Oper.wp
  simp [execOp, ho, resolve, invoke, builtin, hs, hy, hrun, Result.andThen]
  exact hK _ _ (h v' w' r1 r2)

/-- make([]T, n). -/
theorem make_full {P : Program} {t e size bytes : Nat} {z : Value} (E : ElemT P t e size bytes z) (w : World) (kl kc : IntKind) (n : Nat) (hbytes : bytes * n ≤ 281474976710656) (hb0 : 0 < bytes) :
    ∃ w', (Instr.makeSlice t (.int kl (n : Int)) (.int kc (n : Int))).run P w = .ok (.slice (some ⟨w.heap.size, 0, none⟩) n n) w' ∧ w' = w.alloc (.cells (madeCells z.cells (n * size)) e) := by
  obtain ⟨i, hi, hz, hsz, hby⟩ := E.hi
  subst hsz; subst hby
  have hn : n ≤ i.bytes * n := Nat.le_mul_of_pos_left n hb0
  have hb' : (i.bytes : Int) * (n : Int) ≤ 281474976710656 := by
    have h : ((i.bytes * n : Nat) : Int) ≤ 281474976710656 := by omega
    rwa [Int.natCast_mul] at h
  have hr := run_make (P := P) w t e i z E.ht hi hz kl kc n n (by omega) (Int.le_refl _) hb' (by omega)
  simp only [Int.toNat_natCast] at hr
  exact ⟨_, hr, rfl⟩

/-- make([]T, 0, n). -/
theorem make_cap {P : Program} {t e size bytes : Nat} {z : Value} (E : ElemT P t e size bytes z) (w : World) (kl kc : IntKind) (n : Nat) (hbytes : bytes * n ≤ 281474976710656) (hb0 : 0 < bytes) :
    (Instr.makeSlice t (.int kl 0) (.int kc (n : Int))).run P w = .ok (.slice (some ⟨w.heap.size, 0, none⟩) 0 n) (w.alloc (.cells (madeCells z.cells (n * size)) e)) := by
  obtain ⟨i, hi, hz, hsz, hby⟩ := E.hi
  subst hsz; subst hby
  have hn : n ≤ i.bytes * n := Nat.le_mul_of_pos_left n hb0
  have hb' : (i.bytes : Int) * (n : Int) ≤ 281474976710656 := by
    have h : ((i.bytes * n : Nat) : Int) ≤ 281474976710656 := by omega
    rwa [Int.natCast_mul] at h
  have hr := run_make (P := P) w t e i z E.ht hi hz kl kc 0 n (by omega) (by omega) hb' (by omega)
  simp only [Int.toNat_natCast] at hr
  exact hr

/-! ### Strings and rows of bytes -/
def byteVals (l : List UInt8) : List Value := l.map fun b => Value.int .u8 b.toNat
section
variable {P : Program}
/-- string(b). -/
theorem conv_bytes {w : World} {v : Value} {l : List UInt8} (h : SliceAt w v 1 (byteVals l)) (src e dst : TypeId) (hs : P.underlying src = some (.slice e)) (he : P.underlying e = some (.int .u8)) (hd : P.underlying dst = some .string) :
    (convert src dst v).run P w = .ok (.string ⟨l.toArray⟩) w := by
  obtain ⟨n, cap, hm, hnc, hcm, hn, h⟩ := h
  have hl : l.length = n := by simpa [byteVals] using hn
  subst hl
  have hz : strOfNums (l.map fun b => (b.toNat : Int)) = ⟨l.toArray⟩ := by
    unfold strOfNums
    rw [List.map_map]
    congr 2
    conv => rhs; rw [← List.map_id l]
    apply List.map_congr_left; intro x _; simp
  rcases h with ⟨h0, a, rfl⟩ | ⟨b, off, rfl, hc⟩
  · have : l = [] := List.eq_nil_of_length_eq_zero h0
    subst this
    cases a with
    | none => rw [run_convert_bytes_nil w src e hs he 0 cap dst hd]; rfl
    | some a => rw [run_convert_bytes_string w src dst e _ 0 cap hs he hd, run_bytesToString w _ 0 cap [] (by simpa using run_loadCells_list (P := P) w a [] (fun j v hj => by simp at hj))]; rfl
  · rw [run_convert_bytes_arg w src e hs he b off l.length cap (l.map fun b => (b.toNat : Int)) (by simp) (fun i hi => ?_) dst hd, hz]
    rw [hc i (by simpa [byteVals] using hi)]
    simp [byteVals, List.getD_eq_getElem?_getD, List.getElem?_eq_getElem hi]
theorem bytesWorld_below (w : World) (e : TypeId) (s : ByteArray) : Below w.heap.size w (Lib.bytesWorld w e s) :=
  ⟨rfl, rfl, rfl, by rw [Lib.bytesWorld_size]; omega, fun k hk => Lib.bytesWorld_at_old w e s k hk⟩
/-- []byte(s). -/
theorem conv_string (w : World) (s : ByteArray) (hm : s.size ≤ maxLen) (src dst e : TypeId) {u : TypeDesc} (hs : P.underlying src = some u) (hd : P.underlying dst = some (.slice e)) (he : P.underlying e = some (.int .u8)) :
    ∃ v w', (convert src dst (.string s)).run P w = .ok v w' ∧ SliceAt w' v 1 (byteVals s.data.toList) ∧ Below w.heap.size w w' := by
  refine ⟨_, _, Lib.run_convert_string_bytes w src dst e s hs hd he, ?_, bytesWorld_below w e s⟩
  refine ⟨s.size, _, hm, grownCap_ge w s.size 0 e, grownCap_le_maxLen w s.size 0 e hm, by simp [byteVals], .inr ⟨_, 0, rfl, fun j hj => ?_⟩⟩
  have hj' : j < s.size := by simpa [byteVals] using hj
  rw [Nat.zero_add, Lib.bytesWorld_cell w e s j hj']
  simp [byteVals, List.getD_eq_getElem?_getD, hj']
end
end Go.Proofs.YtlloghbaggdhnaaDoor
