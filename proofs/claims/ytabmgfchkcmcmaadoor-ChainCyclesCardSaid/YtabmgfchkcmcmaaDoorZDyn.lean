/- The abstract machine, more: objects, so many as there are rows. Conditions: none. -/
import Derived.Test.YtabmgfchkcmcmaaDoorZAmQ
set_option linter.unusedVariables false
set_option linter.unusedSimpArgs false
namespace Go.Proofs.YtabmgfchkcmcmaaDoor
open Go Go.RowKit
def rowsO (e : TypeId) (sz : Nat) (R : List (List FV)) : AH := R.map fun l => some ⟨e, sz, l.map .f⟩
def dy (A : AH) (e : TypeId) (sz : Nat) (R : List (List FV)) (B : AH) : AH := A ++ (rowsO e sz R ++ B)
section
variable {A A' B C : AH} {e : TypeId} {sz a n i j N : Nat} {R : List (List FV)} {l : List FV} {o : Option AO}
theorem rowsO_len : (rowsO e sz R).length = R.length := by simp [rowsO]
theorem dy_len : (dy A e sz R B).length = A.length + (R.length + B.length) := by simp [dy, rowsO_len]
theorem dy_app : dy A e sz R B ++ C = dy A e sz R (B ++ C) := by simp [dy]
theorem dy_get0 (h : i < A.length) : (dy A e sz R B)[i]? = A[i]? := List.getElem?_append_left h
theorem dy_getR (ha : A.length = a) (hi : R[i]? = some l) : (dy A e sz R B)[a + i]? = some (some ⟨e, sz, l.map .f⟩) := by
  have hil := glt hi
  unfold dy
  rw [List.getElem?_append_right (by omega), show a + i - A.length = i by omega, List.getElem?_append_left (by rw [rowsO_len]; exact hil)]
  simp [rowsO, hi]
theorem dy_setR (ha : A.length = a) (hi : i < R.length) : (dy A e sz R B).set (a + i) (some ⟨e, sz, l.map .f⟩) = dy A e sz (R.set i l) B := by
  unfold dy
  rw [List.set_append_right _ _ (by omega), show a + i - A.length = i by omega, List.set_append_left _ _ (by rw [rowsO_len]; exact hi)]
  congr 2
  unfold rowsO
  rw [List.map_set]
theorem dy_getB (ha : A.length = a) (hn : R.length = n) : (dy A e sz R B)[a + (n + j)]? = B[j]? := by
  unfold dy
  rw [List.getElem?_append_right (by omega), show a + (n + j) - A.length = n + j by omega, List.getElem?_append_right (by rw [rowsO_len]; omega), rowsO_len, show n + j - R.length = j by omega]
theorem dy_getB0 (ha : A.length = a) (hn : R.length = n) : (dy A e sz R B)[a + n]? = B[0]? := by
  have := dy_getB (A := A) (B := B) (e := e) (sz := sz) (j := 0) ha hn
  rwa [Nat.add_zero] at this
theorem dy_setB (ha : A.length = a) (hn : R.length = n) : (dy A e sz R B).set (a + (n + j)) o = dy A e sz R (B.set j o) := by
  unfold dy
  rw [List.set_append_right _ _ (by omega), show a + (n + j) - A.length = n + j by omega, List.set_append_right _ _ (by rw [rowsO_len]; omega), rowsO_len, show n + j - R.length = j by omega]
theorem dy_setB0 (ha : A.length = a) (hn : R.length = n) : (dy A e sz R B).set (a + n) o = dy A e sz R (B.set 0 o) := by
  have := dy_setB (A := A) (B := B) (e := e) (sz := sz) (j := 0) (o := o) ha hn
  rwa [Nat.add_zero] at this
theorem dy_close : dy A e sz R [some ⟨e, sz, l.map .f⟩] = dy A e sz (R ++ [l]) [] := by simp [dy, rowsO]
theorem weakH_app {H : AH} : A.length = A'.length → (WeakH N (A ++ H) (A' ++ C) ↔ WeakH N A A' ∧ WeakH N H C) := by
  induction A generalizing A' with
  | nil =>
    intro h
    cases A' with
    | nil => rw [List.nil_append, List.nil_append, weakH_nil]; simp
    | cons b A' => simp at h
  | cons b A ih =>
    intro h
    cases A' with
    | nil => simp at h
    | cons c A' =>
      have := ih (A' := A') (by simpa using h)
      show (_ ∧ WeakH N (A ++ H) (A' ++ C)) ↔ (_ ∧ WeakH N A A') ∧ _
      rw [this, and_assoc]
theorem weakH_rows : WeakH N (rowsO e sz R ++ B) (rowsO e sz R ++ []) := by
  rw [List.append_nil]
  induction R with
  | nil => exact (weakH_nil N B).mpr trivial
  | cons l R ih => exact ⟨⟨rfl, fun x hx => by obtain ⟨y, _, rfl⟩ := List.mem_map.1 (show x ∈ l.map AV.f from hx); rfl⟩, ih⟩
theorem weakH_dyB (h : A.length = A'.length) : WeakH N (dy A e sz R B) (dy A' e sz R C) = (WeakH N A A' ∧ WeakH N B C) := by
  unfold dy
  refine propext ⟨fun hh => ⟨((weakH_app h).1 hh).1, ((weakH_app rfl).1 ((weakH_app h).1 hh).2).2⟩, fun hh => (weakH_app h).2 ⟨hh.1, (weakH_app rfl).2 ⟨?_, hh.2⟩⟩⟩
  have := weakH_rows (N := N) (e := e) (sz := sz) (R := R) (B := [])
  simpa using this
def gCur (c d : Nat) (r : Nat) : Nat := if r = c then d else r
theorem gCur_self {c d : Nat} : gCur c d c = d := if_pos rfl
theorem gCur_ne {c d r : Nat} (h : r ≠ c) : gCur c d r = r := if_neg h
theorem weakHr_get {g : Nat → Nat} {N : Nat} {H m : AH} (h : WeakHr g N H 0 m) : ∀ (r : Nat) o, m[r]? = some (some o) → H[g r]? = some (some ⟨o.e, o.sz, o.es.map (AV.ren g)⟩) ∧ ∀ e ∈ o.es, e.lt0 N = true := fun r o hr => by
  have := weakHr h r o hr
  rwa [Nat.zero_add] at this
theorem weak_cur {t t' : List AV} {x : Option AO} (ha : A.length = a) (ha' : A'.length = a) (hn : R.length = n) (hj : B[j]? = some x) (hx : x = ob e sz l)
    (ht : WeakLr (gCur (a + n) (a + (n + j))) (a + (n + 1)) t t') (hA : WeakHr (gCur (a + n) (a + (n + j))) (a + (n + 1)) A 0 A') :
    Weak ⟨t, dy A e sz R B⟩ ⟨t', dy A' e sz R [ob e sz l]⟩ := by
  have hN : (dy A' e sz R [ob e sz l]).length = a + (n + 1) := by rw [dy_len, ha', hn]; rfl
  refine ⟨gCur (a + n) (a + (n + j)), (weakLr ht).1, fun i x hi => ?_, fun r o hr => ?_, fun r r' hr hr' h => ?_⟩
  · rw [show (AS.mk t' (dy A' e sz R [ob e sz l])).H.length = a + (n + 1) from hN]; exact (weakLr ht).2 i x hi
  · rw [show (AS.mk t' (dy A' e sz R [ob e sz l])).H.length = a + (n + 1) from hN]
    replace hr : (dy A' e sz R [ob e sz l])[r]? = some (some o) := hr
    show (dy A e sz R B)[_]? = _ ∧ _
    rcases Nat.lt_or_ge r a with h1 | h1
    · rw [dy_get0 (by omega)] at hr
      obtain ⟨h2, h3⟩ := weakHr_get hA r o hr
      rw [gCur_ne (by omega)] at h2 ⊢
      rw [dy_get0 (by omega)]
      exact ⟨h2, h3⟩
    · obtain ⟨q, rfl⟩ : ∃ q, r = a + q := ⟨r - a, by omega⟩
      rcases Nat.lt_or_ge q n with h2 | h2
      · have hq : R[q]? = some R[q] := List.getElem?_eq_getElem (by omega)
        rw [dy_getR ha' hq] at hr
        cases hr
        rw [gCur_ne (by omega), dy_getR ha hq]
        exact ⟨by show _ = some (some (AO.mk e sz ((R[q].map AV.f).map _))); rw [map_ren_f], fun x hx => by obtain ⟨y, _, rfl⟩ := List.mem_map.1 (show x ∈ R[q].map AV.f from hx); rfl⟩
      · obtain ⟨p, rfl⟩ : ∃ p, q = n + p := ⟨q - n, by omega⟩
        rw [dy_getB ha' hn] at hr
        cases p with
        | zero =>
          have hr' : ob e sz l = some o := by simpa using hr
          cases hl : l with
          | nil => rw [hl] at hr'; cases hr'
          | cons y l' =>
            rw [Nat.add_zero, gCur_self, dy_getB ha hn, hj, hx, ob_pos (by rw [hl]; simp)]
            rw [ob_pos (by rw [hl]; simp)] at hr'
            cases hr'
            exact ⟨by show _ = some (some (AO.mk e sz ((l.map AV.f).map _))); rw [map_ren_f], fun x hx => by obtain ⟨y, _, rfl⟩ := List.mem_map.1 (show x ∈ l.map AV.f from hx); rfl⟩
        | succ p => simp at hr
  · replace hr : r < (dy A' e sz R [ob e sz l]).length := hr
    replace hr' : r' < (dy A' e sz R [ob e sz l]).length := hr'
    rw [hN] at hr hr'
    unfold gCur at h
    split at h <;> split at h <;> omega
end
section
variable {A B C : AH} {e : TypeId} {sz N : Nat} {R : List (List FV)} {o p q r o' p' q' r' : Option AO}
theorem dy_g0 : (dy (o :: A) e sz R B)[0]? = some o := (rfl)
theorem dy_g1 : (dy (o :: p :: A) e sz R B)[1]? = some p := (rfl)
theorem dy_g2 : (dy (o :: p :: q :: A) e sz R B)[2]? = some q := (rfl)
theorem dy_g3 : (dy (o :: p :: q :: r :: A) e sz R B)[3]? = some r := (rfl)
theorem dy_s0 : (dy (o :: A) e sz R B).set 0 o' = dy (o' :: A) e sz R B := (rfl)
theorem dy_s1 : (dy (o :: p :: A) e sz R B).set 1 o' = dy (o :: o' :: A) e sz R B := (rfl)
theorem dy_s2 : (dy (o :: p :: q :: A) e sz R B).set 2 o' = dy (o :: p :: o' :: A) e sz R B := (rfl)
theorem dy_s3 : (dy (o :: p :: q :: r :: A) e sz R B).set 3 o' = dy (o :: p :: q :: o' :: A) e sz R B := (rfl)
theorem weakH_dy1 : WeakH N (dy [o] e sz R B) (dy [o'] e sz R C) = (WeakH N [o] [o'] ∧ WeakH N B C) := weakH_dyB rfl
theorem weakH_dy2 : WeakH N (dy [o, p] e sz R B) (dy [o', p'] e sz R C) = (WeakH N [o, p] [o', p'] ∧ WeakH N B C) := weakH_dyB rfl
theorem weakH_dy3 : WeakH N (dy [o, p, q] e sz R B) (dy [o', p', q'] e sz R C) = (WeakH N [o, p, q] [o', p', q'] ∧ WeakH N B C) := weakH_dyB rfl
theorem weakH_dy4 : WeakH N (dy [o, p, q, r] e sz R B) (dy [o', p', q', r'] e sz R C) = (WeakH N [o, p, q, r] [o', p', q', r'] ∧ WeakH N B C) := weakH_dyB rfl
end
abbrev nilV : FV := .v (.slice none 0 0)
attribute [go_sem] dy_len dy_app dy_g0 dy_g1 dy_g2 dy_g3 dy_s0 dy_s1 dy_s2 dy_s3 weakH_dy1 weakH_dy2 weakH_dy3 weakH_dy4
end Go.Proofs.YtabmgfchkcmcmaaDoor
