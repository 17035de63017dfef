/- The abstract machine, fourteenth part: contracts over values alone, and fractions. Conditions: none. -/
import Derived.Test.YtabmgfchkcmcmaaDoorZAmM
import Derived.Test.YtabmgfchkcmcmaaDoorZFracOne
set_option linter.unusedVariables false
set_option linter.unusedSimpArgs false
namespace Go.Proofs.YtabmgfchkcmcmaaDoor
open Go Go.RowKit

theorem vals_repf {w : World} {F : Nat → Prop} : ∀ {cs : List FV} {l : List Value}, vals cs = some l → cs.length = l.length ∧ ∀ (j : Nat) c, cs[j]? = some c → RepF w F c (l.toArray.getD j undef)
  | [], l, h => by cases h; exact ⟨rfl, fun j c h => by simp at h⟩
  | .v x :: cs, l, h => by
    unfold vals at h
    cases hv : vals cs with
    | none => rw [hv] at h; cases h
    | some l' =>
      rw [hv] at h
      cases h
      obtain ⟨h1, h2⟩ := vals_repf (w := w) (F := F) hv
      refine ⟨by simp [h1], fun j c hj => ?_⟩
      cases j with
      | zero => simp at hj; subst hj; exact .v x
      | succ j =>
        have := h2 j c (by simpa using hj)
        have e : (x :: l').toArray.getD (j + 1) undef = l'.toArray.getD j undef := by simp [Array.getD_eq_getD_getElem?]
        rw [e]; exact this
  | .agg _ :: _, l, h => by cases h
  | .tup _ :: _, l, h => by cases h
  | .fz _ _ :: _, l, h => by cases h
  | .fp _ _ :: _, l, h => by cases h
  | .fn _ _ _ :: _, l, h => by cases h
theorem val_repf {w : World} {F : Nat → Prop} {x : FV} {v : Value} (h : x.val = some v) : RepF w F x v := by
  cases x with
  | v x => cases h; exact .v _
  | agg cs =>
    replace h : (vals cs).map (fun l => Value.agg l.toArray) = some v := h
    cases hv : vals cs with
    | none => rw [hv] at h; cases h
    | some l =>
      rw [hv] at h
      cases h
      obtain ⟨h1, h2⟩ := vals_repf (w := w) (F := F) hv
      exact .agg cs _ (by simpa using h1) h2
  | _ => cases h
def FV.val2 : FV → Option Value
  | .tup cs => (cs.mapM FV.val).map fun l => .tuple l.toArray
  | x => x.val
theorem mapM_vals {w : World} {F : Nat → Prop} : ∀ {cs : List FV} {l : List Value}, cs.mapM FV.val = some l → cs.length = l.length ∧ (∀ (j : Nat) c, cs[j]? = some c → RepF w F c (l.toArray.getD j undef)) ∧ ∀ ys : Array Value, cs.length = ys.size → (∀ (j : Nat) c, cs[j]? = some c → RepF w F c (ys.getD j undef)) → ys.toList = l
  | [], l, h => by
    cases h
    refine ⟨rfl, fun j c h => by simp at h, fun ys hl _ => ?_⟩
    simpa using hl.symm
  | x :: cs, l, h => by
    rw [List.mapM_cons] at h
    cases hx : x.val with
    | none => rw [hx] at h; cases h
    | some v =>
      rw [hx] at h
      cases hv : cs.mapM FV.val with
      | none => rw [hv] at h; cases h
      | some l' =>
        rw [hv] at h
        cases h
        obtain ⟨h1, h2, h3⟩ := mapM_vals (w := w) (F := F) hv
        refine ⟨by simp [h1], fun j c hj => ?_, fun ys hl hr => ?_⟩
        · cases j with
          | zero => simp at hj; subst hj; exact val_repf hx
          | succ j =>
            have := h2 j c (by simpa using hj)
            have e : (v :: l').toArray.getD (j + 1) undef = l'.toArray.getD j undef := by simp [Array.getD_eq_getD_getElem?]
            rw [e]; exact this
        · obtain ⟨ys⟩ := ys
          cases ys with
          | nil => simp at hl
          | cons y ys =>
            have h0 := hr 0 x rfl
            have e0 : (y :: ys).toArray.getD 0 undef = y := rfl
            rw [e0] at h0
            have := val_rep hx h0
            subst this
            have := h3 ys.toArray (by simpa using hl) (fun j c hj => by
              have := hr (j + 1) c (by simpa using hj)
              have e : (y :: ys).toArray.getD (j + 1) undef = ys.toArray.getD j undef := by simp [Array.getD_eq_getD_getElem?]
              rwa [e] at this)
            show y :: ys = y :: l'
            rw [← this]
theorem val2_repf {w : World} {F : Nat → Prop} {x : FV} {v : Value} (h : x.val2 = some v) : RepF w F x v := by
  by_cases ht : ∃ cs, x = .tup cs
  · obtain ⟨cs, rfl⟩ := ht
    replace h : (cs.mapM FV.val).map (fun l => Value.tuple l.toArray) = some v := h
    cases hv : cs.mapM FV.val with
    | none => rw [hv] at h; cases h
    | some l =>
      rw [hv] at h
      cases h
      obtain ⟨h1, h2, _⟩ := mapM_vals (w := w) (F := F) hv
      exact .tup cs _ (by simpa using h1) h2
  · have : x.val = some v := by cases x <;> first | exact h | exact absurd ⟨_, rfl⟩ ht
    exact val_repf this
theorem good_calls {P : Program} {f : FuncId} {xs : List FV} {r : FV} {args : List Value} {v : Value} (hok : enterOk P f = true) (hx : xs.mapM FV.val = some args) (hr : r.val2 = some v)
    (h : ∀ w, Calls P f args.toArray w fun e w' => e = .returned v ∧ Below w.heap.size w w') : Good P f xs r := by
  refine ⟨hok, fun w G ys hG hrep => ?_⟩
  obtain ⟨_, _, h3⟩ := mapM_vals (w := w) (F := G) hx
  have := h3 ys hrep.1 hrep.2
  have e : ys = args.toArray := by rw [← this]
  rw [e]
  exact (h w).mono fun e w' ⟨he, hb⟩ => ⟨v, he, ⟨hb.os, hb.tape, hb.output, hb.size, fun k hk _ => hb.block k hk⟩, val2_repf hr⟩
def fr (q : Rat) : FV := .agg [.v (.bool (cg q)), .v (.string (cn q)), .v (.string (cd q))]
abbrev frs (l : List Rat) : FV := .fz 3 (l.map fr)
abbrev rowsF (m : List (List Rat)) : FV := .fz 1 (m.map frs)
abbrev I (n : Int) : FV := .v (.int .i64 n)
abbrev ints (l : List Int) : FV := .fz 1 (l.map I)
theorem of_good {n : Int} (h0 : -9223372036854775808 ≤ n) (h1 : n ≤ 9223372036854775807) : Good Tryd.prog 102 [I n] (fr (n : Rat)) :=
  good_calls (by kernel_rfl) rfl rfl fun w => fof_g h0 h1 w
theorem flatF_fr (q : Rat) : FlatF (fr q) := .agg _ fun j c h => by
  match j, h with
  | 0, h => cases h; exact .v _
  | 1, h => cases h; exact .v _
  | 2, h => cases h; exact .v _
theorem fr_cells (q : Rat) : (fr q).cells = [.v (.bool (cg q)), .v (.string (cn q)), .v (.string (cd q))] := (rfl)
theorem fr_st (q : Rat) : (fr q).st = true := (rfl)
theorem fr_isA (q : Rat) : (fr q).isA = true := (rfl)
theorem lget_lt {α : Type} (l : List α) (d : α) {i : Nat} (h : i < l.length) : l.getD i d = l[i] := by rw [List.getD_eq_getElem?_getD, List.getElem?_eq_getElem h]; rfl
attribute [go_sem] fr_cells fr_st fr_isA
end Go.Proofs.YtabmgfchkcmcmaaDoor
