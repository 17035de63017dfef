/- The abstract machine, more: objects, so many as there are rows. Conditions: none. -/
import Derived.Test.YtcgagiimlkjcpaaDoorZAmQ
import Derived.Test.YtcgagiimlkjcpaaDoorZB08
import Derived.Test.YtcgagiimlkjcpaaDoorZB13
set_option linter.unusedVariables false
set_option linter.unusedSimpArgs false
namespace Go.Proofs.YtcgagiimlkjcpaaDoor
open Go Go.RowKit
def rowsO (e : TypeId) (sz : Nat) (R : List (List FV)) : AH := R.map fun l => some ⟨e, sz, l.map .f⟩
def dy (A : AH) (e : TypeId) (sz : Nat) (R : List (List FV)) (B : AH) : AH := A ++ (rowsO e sz R ++ B)
section
variable {A A' B C : AH} {e : TypeId} {sz a n i j N : Nat} {R : List (List FV)} {l : List FV} {o : Option AO}
theorem rowsO_len : (rowsO e sz R).length = R.length := by simp [rowsO]
theorem dy_len : (dy A e sz R B).length = A.length + (R.length + B.length) := by simp [dy, rowsO_len]
theorem dy_app : dy A e sz R B ++ C = dy A e sz R (B ++ C) := by simp [dy]
theorem dy_get0 (h : i < A.length) : (dy A e sz R B)[i]? = A[i]? := List.getElem?_append_left h
theorem dy_getR (ha : A.length = a) (hi : R[i]? = some l) : (dy A e sz R B)[a + i]? = some (some ⟨e, sz, l.map .f⟩) := by
  have hil := glt hi
  unfold dy
  rw [List.getElem?_append_right (by omega), show a + i - A.length = i by omega, List.getElem?_append_left (by rw [rowsO_len]; exact hil)]
  simp [rowsO, hi]
theorem dy_setR (ha : A.length = a) (hi : i < R.length) : (dy A e sz R B).set (a + i) (some ⟨e, sz, l.map .f⟩) = dy A e sz (R.set i l) B := by
  unfold dy
  rw [List.set_append_right _ _ (by omega), show a + i - A.length = i by omega, List.set_append_left _ _ (by rw [rowsO_len]; exact hi)]
  congr 2
  unfold rowsO
  rw [List.map_set]
theorem dy_getB (ha : A.length = a) (hn : R.length = n) : (dy A e sz R B)[a + (n + j)]? = B[j]? := by
  unfold dy
  rw [List.getElem?_append_right (by omega), show a + (n + j) - A.length = n + j by omega, List.getElem?_append_right (by rw [rowsO_len]; omega), rowsO_len, show n + j - R.length = j by omega]
theorem dy_getB0 (ha : A.length = a) (hn : R.length = n) : (dy A e sz R B)[a + n]? = B[0]? := by
  have := dy_getB (A := A) (B := B) (e := e) (sz := sz) (j := 0) ha hn
  rwa [Nat.add_zero] at this
theorem dy_setB (ha : A.length = a) (hn : R.length = n) : (dy A e sz R B).set (a + (n + j)) o = dy A e sz R (B.set j o) := by
  unfold dy
  rw [List.set_append_right _ _ (by omega), show a + (n + j) - A.length = n + j by omega, List.set_append_right _ _ (by rw [rowsO_len]; omega), rowsO_len, show n + j - R.length = j by omega]
theorem dy_setB0 (ha : A.length = a) (hn : R.length = n) : (dy A e sz R B).set (a + n) o = dy A e sz R (B.set 0 o) := by
  have := dy_setB (A := A) (B := B) (e := e) (sz := sz) (j := 0) (o := o) ha hn
  rwa [Nat.add_zero] at this
theorem dy_close : dy A e sz R [some ⟨e, sz, l.map .f⟩] = dy A e sz (R ++ [l]) [] := by simp [dy, rowsO]
theorem weakH_app {H : AH} : A.length = A'.length → (WeakH N (A ++ H) (A' ++ C) ↔ WeakH N A A' ∧ WeakH N H C) := by
  induction A generalizing A' with
  | nil =>
    intro h
    cases A' with
    | nil => rw [List.nil_append, List.nil_append, weakH_nil]; simp
    | cons b A' => simp at h
  | cons b A ih =>
    intro h
    cases A' with
    | nil => simp at h
    | cons c A' =>
      have := ih (A' := A') (by simpa using h)
      show (_ ∧ WeakH N (A ++ H) (A' ++ C)) ↔ (_ ∧ WeakH N A A') ∧ _
      rw [this, and_assoc]
theorem weakH_rows : WeakH N (rowsO e sz R ++ B) (rowsO e sz R ++ []) := by
  rw [List.append_nil]
  induction R with
  | nil => exact (weakH_nil N B).mpr trivial
  | cons l R ih => exact ⟨⟨rfl, fun x hx => by obtain ⟨y, _, rfl⟩ := List.mem_map.1 (show x ∈ l.map AV.f from hx); rfl⟩, ih⟩
theorem weakH_dyB (h : A.length = A'.length) : WeakH N (dy A e sz R B) (dy A' e sz R C) = (WeakH N A A' ∧ WeakH N B C) := by
  unfold dy
  refine propext ⟨fun hh => ⟨((weakH_app h).1 hh).1, ((weakH_app rfl).1 ((weakH_app h).1 hh).2).2⟩, fun hh => (weakH_app h).2 ⟨hh.1, (weakH_app rfl).2 ⟨?_, hh.2⟩⟩⟩
  have := weakH_rows (N := N) (e := e) (sz := sz) (R := R) (B := [])
  simpa using this
def gCur (c d : Nat) (r : Nat) : Nat := if r = c then d else r
theorem gCur_self {c d : Nat} : gCur c d c = d := if_pos rfl
theorem gCur_ne {c d r : Nat} (h : r ≠ c) : gCur c d r = r := if_neg h
theorem weakHr_get {g : Nat → Nat} {N : Nat} {H m : AH} (h : WeakHr g N H 0 m) : ∀ (r : Nat) o, m[r]? = some (some o) → H[g r]? = some (some ⟨o.e, o.sz, o.es.map (AV.ren g)⟩) ∧ ∀ e ∈ o.es, e.lt0 N = true := fun r o hr => by
  have := weakHr h r o hr
  rwa [Nat.zero_add] at this
theorem weak_cur {t t' : List AV} {x : Option AO} (ha : A.length = a) (ha' : A'.length = a) (hn : R.length = n) (hj : B[j]? = some x) (hx : x = ob e sz l)
    (ht : WeakLr (gCur (a + n) (a + (n + j))) (a + (n + 1)) t t') (hA : WeakHr (gCur (a + n) (a + (n + j))) (a + (n + 1)) A 0 A') :
    Weak ⟨t, dy A e sz R B⟩ ⟨t', dy A' e sz R [ob e sz l]⟩ := by
  have hN : (dy A' e sz R [ob e sz l]).length = a + (n + 1) := by rw [dy_len, ha', hn]; rfl
  refine ⟨gCur (a + n) (a + (n + j)), (weakLr ht).1, fun i x hi => ?_, fun r o hr => ?_, fun r r' hr hr' h => ?_⟩
  · rw [show (AS.mk t' (dy A' e sz R [ob e sz l])).H.length = a + (n + 1) from hN]; exact (weakLr ht).2 i x hi
  · rw [show (AS.mk t' (dy A' e sz R [ob e sz l])).H.length = a + (n + 1) from hN]
    replace hr : (dy A' e sz R [ob e sz l])[r]? = some (some o) := hr
    show (dy A e sz R B)[_]? = _ ∧ _
    rcases Nat.lt_or_ge r a with h1 | h1
    · rw [dy_get0 (by omega)] at hr
      obtain ⟨h2, h3⟩ := weakHr_get hA r o hr
      rw [gCur_ne (by omega)] at h2 ⊢
      rw [dy_get0 (by omega)]
      exact ⟨h2, h3⟩
    · obtain ⟨q, rfl⟩ : ∃ q, r = a + q := ⟨r - a, by omega⟩
      rcases Nat.lt_or_ge q n with h2 | h2
      · have hq : R[q]? = some R[q] := List.getElem?_eq_getElem (by omega)
        rw [dy_getR ha' hq] at hr
        cases hr
        rw [gCur_ne (by omega), dy_getR ha hq]
        exact ⟨by show _ = some (some (AO.mk e sz ((R[q].map AV.f).map _))); rw [map_ren_f], fun x hx => by obtain ⟨y, _, rfl⟩ := List.mem_map.1 (show x ∈ R[q].map AV.f from hx); rfl⟩
      · obtain ⟨p, rfl⟩ : ∃ p, q = n + p := ⟨q - n, by omega⟩
        rw [dy_getB ha' hn] at hr
        cases p with
        | zero =>
          have hr' : ob e sz l = some o := by simpa using hr
          cases hl : l with
          | nil => rw [hl] at hr'; cases hr'
          | cons y l' =>
            rw [Nat.add_zero, gCur_self, dy_getB ha hn, hj, hx, ob_pos (by rw [hl]; simp)]
            rw [ob_pos (by rw [hl]; simp)] at hr'
            cases hr'
            exact ⟨by show _ = some (some (AO.mk e sz ((l.map AV.f).map _))); rw [map_ren_f], fun x hx => by obtain ⟨y, _, rfl⟩ := List.mem_map.1 (show x ∈ l.map AV.f from hx); rfl⟩
        | succ p => simp at hr
  · replace hr : r < (dy A' e sz R [ob e sz l]).length := hr
    replace hr' : r' < (dy A' e sz R [ob e sz l]).length := hr'
    rw [hN] at hr hr'
    unfold gCur at h
    split at h <;> split at h <;> omega
end
section
variable {A B C : AH} {e : TypeId} {sz N : Nat} {R : List (List FV)} {o p q r o' p' q' r' : Option AO}
theorem dy_g0 : (dy (o :: A) e sz R B)[0]? = some o := (rfl)
theorem dy_g1 : (dy (o :: p :: A) e sz R B)[1]? = some p := (rfl)
theorem dy_g2 : (dy (o :: p :: q :: A) e sz R B)[2]? = some q := (rfl)
theorem dy_g3 : (dy (o :: p :: q :: r :: A) e sz R B)[3]? = some r := (rfl)
theorem dy_s0 : (dy (o :: A) e sz R B).set 0 o' = dy (o' :: A) e sz R B := (rfl)
theorem dy_s1 : (dy (o :: p :: A) e sz R B).set 1 o' = dy (o :: o' :: A) e sz R B := (rfl)
theorem dy_s2 : (dy (o :: p :: q :: A) e sz R B).set 2 o' = dy (o :: p :: o' :: A) e sz R B := (rfl)
theorem dy_s3 : (dy (o :: p :: q :: r :: A) e sz R B).set 3 o' = dy (o :: p :: q :: o' :: A) e sz R B := (rfl)
theorem weakH_dy1 : WeakH N (dy [o] e sz R B) (dy [o'] e sz R C) = (WeakH N [o] [o'] ∧ WeakH N B C) := weakH_dyB rfl
theorem weakH_dy2 : WeakH N (dy [o, p] e sz R B) (dy [o', p'] e sz R C) = (WeakH N [o, p] [o', p'] ∧ WeakH N B C) := weakH_dyB rfl
theorem weakH_dy3 : WeakH N (dy [o, p, q] e sz R B) (dy [o', p', q'] e sz R C) = (WeakH N [o, p, q] [o', p', q'] ∧ WeakH N B C) := weakH_dyB rfl
theorem weakH_dy4 : WeakH N (dy [o, p, q, r] e sz R B) (dy [o', p', q', r'] e sz R C) = (WeakH N [o, p, q, r] [o', p', q', r'] ∧ WeakH N B C) := weakH_dyB rfl
end
abbrev nilV : FV := .v (.slice none 0 0)
attribute [go_sem] dy_len dy_app dy_g0 dy_g1 dy_g2 dy_g3 dy_s0 dy_s1 dy_s2 dy_s3 weakH_dy1 weakH_dy2 weakH_dy3 weakH_dy4
end Go.Proofs.YtcgagiimlkjcpaaDoor
set_option linter.unusedVariables false
set_option linter.unusedSimpArgs false
namespace Go.Proofs.YtcgagiimlkjcpaaDoor
open Go Go.RowKit
def tmR (p : List Rat) (m : List (List Rat)) : List Rat := (List.range m.length).map fun k => sumF (fun i => p.getD i 0 * at2 m i k) p.length
theorem tmR_len {p : List Rat} {m : List (List Rat)} : (tmR p m).length = m.length := by simp [tmR]
theorem sumF_fz {f : Nat → Rat} {s : Nat} : ∀ {n : Nat}, (∀ k, k < n → Fz (f k) s) → Fz (sumF f n) (8 + n * (s + 1)) := by
  intro n
  induction n with
  | zero => intro _; exact (Fz.int (n := 0) (by decide)).up (by omega)
  | succ n ih => intro h; exact ((ih fun k hk => h k (by omega)).add (h n (by omega))).up (by rw [Nat.add_mul]; omega)
theorem Row.getD {k : Nat} {l : List Rat} (h : Row k l) {i : Nat} (hi : i < l.length) : Fz (l.getD i 0) k := by rw [lget_lt l 0 hi]; exact h.get hi
structure SqM (k : Nat) (ys : List FV) (m : List (List Rat)) : Prop where
  fr : FrM k ys m
  sq : ∀ r ∈ m, List.length r = m.length
  le : m.length ≤ 6
section
variable {a b : Nat} {ps ys : List FV} {p : List Rat} {m : List (List Rat)} {i j : Nat}
theorem SqM.e2 (h : SqM b ys m) (hi : i < m.length) (hj : j < m.length) : at2 m i j = (m[i]'hi)[j]'(by rw [h.sq _ (List.getElem_mem hi)]; exact hj) := by unfold at2; rw [lget_lt m [] hi, lget_lt _ 0]
theorem SqM.at2 (h : SqM b ys m) (hi : i < m.length) (hj : j < m.length) : ∃ xs g n d, ys[i]? = some (.fz 3 xs) ∧ xs[j]? = some (frR g n d) ∧ IsFr (frR g n d) (at2 m i j) b := by
  obtain ⟨xs, h1, h2⟩ := h.fr.at hi
  obtain ⟨g, n, d, h3, h4⟩ := h2.at3 (i := j) (by rw [h.sq _ (List.getElem_mem hi)]; exact hj)
  exact ⟨xs, g, n, d, h1, h3, by rw [h.e2 hi hj]; exact h4⟩
theorem SqM.f2 (h : SqM b ys m) (h1 : 1 ≤ b) (hi : i < m.length) (hj : j < m.length) : Fz (Go.Proofs.YtcgagiimlkjcpaaDoor.at2 m i j) b := by
  obtain ⟨xs, g, n, d, _, _, h4⟩ := h.at2 hi hj
  exact h4.fz h1
theorem SqM.c {A : Mx} {n : Nat} (hn : n ≤ 6) (h : ∀ i k, i < n → k < n → Fz (A i k) b) : SqM b ((mxL n A).map frs) (mxL n A) where
  fr := FrM.c fun r hr => by
    obtain ⟨i, hi, rfl⟩ := List.mem_map.1 hr
    intro q hq
    obtain ⟨k, hk, rfl⟩ := List.mem_map.1 hq
    exact h i k (List.mem_range.1 hi) (List.mem_range.1 hk)
  sq := fun r hr => by rw [mxL_len]; exact mxL_row r hr
  le := by rw [mxL_len]; exact hn
theorem SqM.up (h : SqM a ys m) (hab : a ≤ b) : SqM b ys m := ⟨⟨h.fr.len, fun i r hr => by obtain ⟨xs, h1, h2⟩ := h.fr.get i r hr; exact ⟨xs, h1, h2.up hab⟩⟩, h.sq, h.le⟩
set_option maxRecDepth 100000 in
set_option maxHeartbeats 4000000 in
theorem times_w (hp : Frs a ps p) (hm : SqM b ys m) (h1 : 1 ≤ a) (h2 : 1 ≤ b) (ha : a ≤ 1000000000) (hb : b ≤ 1000000000) (hl : p.length = m.length) : Good Tryd.prog 22 [.fz 3 ps, .fz 1 ys] (frs (tmR p m)) := by
  have hr := hp.row h1
  have h6 := hm.le
  have hrep : List.replicate m.length (AV.f frN) = (fillL m.length 0 (fun k => fr (sumF (fun i => p.getD i 0 * at2 m i k) p.length)) frN).map .f := by rw [fill_zero, List.map_replicate]
  refine good_of Tryd.func22 rfl (by kernel_rfl) fun X hO hrd => ?_; rw [Tryd.ntmps22, Tryd.results22]; simp only [ast0, List.map_cons, List.map_nil, List.length_cons, List.length_nil, Nat.reduceAdd, Nat.reduceSub, List.replicate_succ, List.replicate_zero, List.cons_append, List.nil_append]
  repeat (first | (with_reducible first | refine W_seq fun K hK => ?_ | refine J_block ?_ | refine J_skip ?_ | refine J_exit ?_ | refine J_ret ?_ | refine J_region ?_  | refine J_drawn mixed (by kernel_rfl) ?_ | refine aApp_sl ?_ | refine aApp_old ?_ | refine J_c ?_ | refine Jc_true ?_ | refine Jc_false ?_ | exact Frz.f _ | (refine Kont.go (by assumption) ?_) | (simp (config := { maxSteps := 3000000 }) (disch := omega) only [go_sem, Nat.reduceEqDiff, ↓reduceIte, Nat.reduceAdd, Nat.reduceLT, Nat.reduceLeDiff, Int.reduceLT, Int.reduceLE, Int.reduceEq, Int.reduceNe, Int.reduceAdd, Int.reduceSub, Int.reduceMul, Int.reduceNeg, Int.reduceToNat, hm.fr.len, hrep])) | refine call_f (of_good (by omega) (by omega)) rfl ?_ | refine callQ_f (of_good (by omega) (by omega)) rfl ?_ | refine call_f (add_w (by assumption) (by assumption) (by omega) (by omega)) rfl ?_ | refine callQ_f (add_w (by assumption) (by assumption) (by omega) (by omega)) rfl ?_ | refine call_f (mul_w (by assumption) (by assumption) (by omega) (by omega)) rfl ?_ | refine callQ_f (mul_w (by assumption) (by assumption) (by omega) (by omega)) rfl ?_ | refine And.intro (by omega) ?_ | refine And.intro (And.intro (by omega) (by omega)) ?_)
  refine W_loop [6, 7, 8, 14, 15, 16, 17, 18, 19, 20, 21, 22, 23, 24, 25, 26, 27, 28, 29, 30, 31, 32, 33, 34, 35, 36, 37, 38, 39, 40, 41, 42, 43, 44, 45, 46] (fun x : Nat => [(14, .f (I x))]) (fun x : Nat => [some ⟨39, 3, (fillL m.length x (fun k => fr (sumF (fun i => p.getD i 0 * at2 m i k) p.length)) frN).map .f⟩]) (fun x : Nat => x ≤ m.length) (fun x : Nat => m.length - x) (0) (Nat.zero_le _) (by refine weak_of ?_ ?_ <;> simp (disch := omega) only [go_sem, Nat.reduceAdd, Nat.reduceLT, Nat.reduceEqDiff] <;> first | rfl | exact ⟨rfl, rfl⟩ | exact Or.inl rfl | exact ⟨Or.inl rfl, Or.inl rfl⟩ | trivial | assumption | omega | (symm; assumption) | ((repeat' apply And.intro) <;> first | rfl | omega | trivial | exact .inr ⟨rfl, rfl⟩ | exact .inr rfl | (right; symm; assumption) | (symm; assumption) | assumption)) ?_
  rintro k hk
  simp only [go_sem, Nat.reduceAdd, Nat.reduceLT, Nat.reduceEqDiff]
  repeat (first | (with_reducible first | refine W_seq fun K hK => ?_ | refine J_block ?_ | refine J_skip ?_ | refine J_exit ?_ | refine J_ret ?_ | refine J_region ?_  | refine J_drawn mixed (by kernel_rfl) ?_ | refine aApp_sl ?_ | refine aApp_old ?_ | refine J_c ?_ | refine Jc_true ?_ | refine Jc_false ?_ | exact Frz.f _ | (refine Kont.go (by assumption) ?_) | (simp (config := { maxSteps := 3000000 }) (disch := omega) only [go_sem, Nat.reduceEqDiff, ↓reduceIte, Nat.reduceAdd, Nat.reduceLT, Nat.reduceLeDiff, Int.reduceLT, Int.reduceLE, Int.reduceEq, Int.reduceNe, Int.reduceAdd, Int.reduceSub, Int.reduceMul, Int.reduceNeg, Int.reduceToNat])) | refine call_f (of_good (by omega) (by omega)) rfl ?_ | refine callQ_f (of_good (by omega) (by omega)) rfl ?_ | refine call_f (add_w (by assumption) (by assumption) (by omega) (by omega)) rfl ?_ | refine callQ_f (add_w (by assumption) (by assumption) (by omega) (by omega)) rfl ?_ | refine call_f (mul_w (by assumption) (by assumption) (by omega) (by omega)) rfl ?_ | refine callQ_f (mul_w (by assumption) (by assumption) (by omega) (by omega)) rfl ?_ | refine And.intro (by omega) ?_ | refine And.intro (And.intro (by omega) (by omega)) ?_)
  refine Jc_if (fun hkl => ?_) (fun hkl => ?_) <;> try simp only [decide_eq_true_eq, decide_eq_false_iff_not, Bool.not_eq_true', Bool.not_eq_false', Bool.not_true, Bool.not_false, Int.ofNat_lt, Int.ofNat_le, Int.natCast_inj, Classical.not_not] at hkl
  · have hgetL : ∀ y, (((fillL m.length k (fun k => fr (sumF (fun i => p.getD i 0 * at2 m i k) p.length)) frN).map AV.f).set k y)[k]? = some y := fun y => List.getElem?_set_self (by simp [fill_len, hkl])
    have z0 : fr ((0 : Int) : Rat) = fr (sumF (fun i => p.getD i 0 * at2 m i k) 0) := rfl
    repeat (first | (with_reducible first | refine W_seq fun K hK => ?_ | refine J_block ?_ | refine J_skip ?_ | refine J_exit ?_ | refine J_ret ?_ | refine J_region ?_  | refine J_drawn mixed (by kernel_rfl) ?_ | refine aApp_sl ?_ | refine aApp_old ?_ | refine J_c ?_ | refine Jc_true ?_ | refine Jc_false ?_ | exact Frz.f _ | (refine Kont.go (by assumption) ?_) | (simp (config := { maxSteps := 3000000 }) (disch := omega) only [go_sem, Nat.reduceEqDiff, ↓reduceIte, Nat.reduceAdd, Nat.reduceLT, Nat.reduceLeDiff, Int.reduceLT, Int.reduceLE, Int.reduceEq, Int.reduceNe, Int.reduceAdd, Int.reduceSub, Int.reduceMul, Int.reduceNeg, Int.reduceToNat, fillA_get hkl, hkl, hp.len, z0])) | refine call_f (of_good (by omega) (by omega)) rfl ?_ | refine callQ_f (of_good (by omega) (by omega)) rfl ?_ | refine call_f (add_w (by assumption) (by assumption) (by omega) (by omega)) rfl ?_ | refine callQ_f (add_w (by assumption) (by assumption) (by omega) (by omega)) rfl ?_ | refine call_f (mul_w (by assumption) (by assumption) (by omega) (by omega)) rfl ?_ | refine callQ_f (mul_w (by assumption) (by assumption) (by omega) (by omega)) rfl ?_ | refine And.intro (by omega) ?_ | refine And.intro (And.intro (by omega) (by omega)) ?_)
    refine W_loop [7, 8, 23, 24, 25, 26, 27, 28, 29, 30, 31, 32, 33, 34, 35, 36, 37, 38, 39, 40, 41, 42, 43, 44, 45] (fun x : Nat => [(23, .f (I x))]) (fun x : Nat => [some ⟨39, 3, ((fillL m.length k (fun k => fr (sumF (fun i => p.getD i 0 * at2 m i k) p.length)) frN).map .f).set k (.f (fr (sumF (fun i => p.getD i 0 * at2 m i k) x)))⟩]) (fun x : Nat => x ≤ p.length) (fun x : Nat => p.length - x) (0) (Nat.zero_le _) (by refine weak_of ?_ ?_ <;> simp (disch := omega) only [go_sem, Nat.reduceAdd, Nat.reduceLT, Nat.reduceEqDiff] <;> first | rfl | exact ⟨rfl, rfl⟩ | exact Or.inl rfl | exact ⟨Or.inl rfl, Or.inl rfl⟩ | trivial | assumption | omega | (symm; assumption) | ((repeat' apply And.intro) <;> first | rfl | omega | trivial | exact .inr ⟨rfl, rfl⟩ | exact .inr rfl | (right; symm; assumption) | (symm; assumption) | assumption)) ?_
    rintro i hi
    simp only [go_sem, Nat.reduceAdd, Nat.reduceLT, Nat.reduceEqDiff]
    repeat (first | (with_reducible first | refine W_seq fun K hK => ?_ | refine J_block ?_ | refine J_skip ?_ | refine J_exit ?_ | refine J_ret ?_ | refine J_region ?_  | refine J_drawn mixed (by kernel_rfl) ?_ | refine aApp_sl ?_ | refine aApp_old ?_ | refine J_c ?_ | refine Jc_true ?_ | refine Jc_false ?_ | exact Frz.f _ | (refine Kont.go (by assumption) ?_) | (simp (config := { maxSteps := 3000000 }) (disch := omega) only [go_sem, Nat.reduceEqDiff, ↓reduceIte, Nat.reduceAdd, Nat.reduceLT, Nat.reduceLeDiff, Int.reduceLT, Int.reduceLE, Int.reduceEq, Int.reduceNe, Int.reduceAdd, Int.reduceSub, Int.reduceMul, Int.reduceNeg, Int.reduceToNat])) | refine call_f (of_good (by omega) (by omega)) rfl ?_ | refine callQ_f (of_good (by omega) (by omega)) rfl ?_ | refine call_f (add_w (by assumption) (by assumption) (by omega) (by omega)) rfl ?_ | refine callQ_f (add_w (by assumption) (by assumption) (by omega) (by omega)) rfl ?_ | refine call_f (mul_w (by assumption) (by assumption) (by omega) (by omega)) rfl ?_ | refine callQ_f (mul_w (by assumption) (by assumption) (by omega) (by omega)) rfl ?_ | refine And.intro (by omega) ?_ | refine And.intro (And.intro (by omega) (by omega)) ?_)
    refine Jc_if (fun hil => ?_) (fun hil => ?_) <;> try simp only [decide_eq_true_eq, decide_eq_false_iff_not, Bool.not_eq_true', Bool.not_eq_false', Bool.not_true, Bool.not_false, Int.ofNat_lt, Int.ofNat_le, Int.natCast_inj, Classical.not_not] at hil
    · obtain ⟨g1, n1, d1, x1, f1⟩ := hp.at3 hil
      rw [← lget_lt p 0 hil] at f1
      obtain ⟨xs, g2, n2, d2, y2, x2, f2⟩ := hm.at2 (i := i) (j := k) (by omega) hkl
      have fs := sumF_fz (f := fun i => p.getD i 0 * at2 m i k) (n := i) (s := a + b) fun q hq => (hr.getD (by omega)).mul (hm.f2 h2 (by omega) hkl)
      have so := Nat.mul_le_mul_right (a + b + 1) (show i ≤ 6 by omega)
      have c1 := IsFr.c fs
      have c2 := IsFr.c ((f1.fz h1).mul (f2.fz h2))
      have en : sumF (fun i => p.getD i 0 * at2 m i k) i + p.getD i 0 * at2 m i k = sumF (fun i => p.getD i 0 * at2 m i k) (i + 1) := rfl
      repeat (first | (with_reducible first | refine W_seq fun K hK => ?_ | refine J_block ?_ | refine J_skip ?_ | refine J_exit ?_ | refine J_ret ?_ | refine J_region ?_  | refine J_drawn mixed (by kernel_rfl) ?_ | refine aApp_sl ?_ | refine aApp_old ?_ | refine J_c ?_ | refine Jc_true ?_ | refine Jc_false ?_ | exact Frz.f _ | (refine Kont.go (by assumption) ?_) | (simp (config := { maxSteps := 3000000 }) (disch := omega) only [go_sem, Nat.reduceEqDiff, ↓reduceIte, Nat.reduceAdd, Nat.reduceLT, Nat.reduceLeDiff, Int.reduceLT, Int.reduceLE, Int.reduceEq, Int.reduceNe, Int.reduceAdd, Int.reduceSub, Int.reduceMul, Int.reduceNeg, Int.reduceToNat, x1, y2, x2, hgetL, List.set_set, hkl, en, fill_len])) | refine call_f (of_good (by omega) (by omega)) rfl ?_ | refine callQ_f (of_good (by omega) (by omega)) rfl ?_ | refine call_f (add_w (by assumption) (by assumption) (by omega) (by omega)) rfl ?_ | refine callQ_f (add_w (by assumption) (by assumption) (by omega) (by omega)) rfl ?_ | refine call_f (mul_w (by assumption) (by assumption) (by omega) (by omega)) rfl ?_ | refine callQ_f (mul_w (by assumption) (by assumption) (by omega) (by omega)) rfl ?_ | refine And.intro (by omega) ?_ | refine And.intro (And.intro (by omega) (by omega)) ?_)
      refine ⟨i + 1, by omega, by omega, weak_of ?_ ?_⟩ <;> (try simp (disch := omega) only [go_sem, Nat.reduceAdd, Nat.reduceLT, Nat.reduceEqDiff]) <;> (try first | done | omega | rfl | exact ⟨rfl, rfl⟩ | trivial)
    · have he : i = p.length := by omega
      subst he
      have hset := fillA_set (f := fun k => fr (sumF (fun i => p.getD i 0 * at2 m i k) p.length)) (z := frN) hkl rfl
      repeat (first | (with_reducible first | refine W_seq fun K hK => ?_ | refine J_block ?_ | refine J_skip ?_ | refine J_exit ?_ | refine J_ret ?_ | refine J_region ?_  | refine J_drawn mixed (by kernel_rfl) ?_ | refine aApp_sl ?_ | refine aApp_old ?_ | refine J_c ?_ | refine Jc_true ?_ | refine Jc_false ?_ | exact Frz.f _ | (refine Kont.go (by assumption) ?_) | (simp (config := { maxSteps := 3000000 }) (disch := omega) only [go_sem, Nat.reduceEqDiff, ↓reduceIte, Nat.reduceAdd, Nat.reduceLT, Nat.reduceLeDiff, Int.reduceLT, Int.reduceLE, Int.reduceEq, Int.reduceNe, Int.reduceAdd, Int.reduceSub, Int.reduceMul, Int.reduceNeg, Int.reduceToNat, hset])) | refine call_f (of_good (by omega) (by omega)) rfl ?_ | refine callQ_f (of_good (by omega) (by omega)) rfl ?_ | refine call_f (add_w (by assumption) (by assumption) (by omega) (by omega)) rfl ?_ | refine callQ_f (add_w (by assumption) (by assumption) (by omega) (by omega)) rfl ?_ | refine call_f (mul_w (by assumption) (by assumption) (by omega) (by omega)) rfl ?_ | refine callQ_f (mul_w (by assumption) (by assumption) (by omega) (by omega)) rfl ?_ | refine And.intro (by omega) ?_ | refine And.intro (And.intro (by omega) (by omega)) ?_)
      refine ⟨k + 1, by omega, by omega, weak_of ?_ ?_⟩ <;> (try simp (disch := omega) only [go_sem, Nat.reduceAdd, Nat.reduceLT, Nat.reduceEqDiff]) <;> (try first | done | omega | rfl | exact ⟨rfl, rfl⟩ | trivial)
  · have he : k = m.length := by omega
    subst he
    have hfa : fillL m.length m.length (fun k => fr (sumF (fun i => p.getD i 0 * at2 m i k) p.length)) frN = (tmR p m).map fr := by rw [fill_all, tmR, List.map_map]; rfl
    repeat (first | (with_reducible first | refine W_seq fun K hK => ?_ | refine J_block ?_ | refine J_skip ?_ | refine J_exit ?_ | refine J_ret ?_ | refine J_region ?_  | refine J_drawn mixed (by kernel_rfl) ?_ | refine aApp_sl ?_ | refine aApp_old ?_ | refine J_c ?_ | refine Jc_true ?_ | refine Jc_false ?_ | exact Frz.f _ | (refine Kont.go (by assumption) ?_) | (simp (config := { maxSteps := 3000000 }) (disch := omega) only [go_sem, Nat.reduceEqDiff, ↓reduceIte, Nat.reduceAdd, Nat.reduceLT, Nat.reduceLeDiff, Int.reduceLT, Int.reduceLE, Int.reduceEq, Int.reduceNe, Int.reduceAdd, Int.reduceSub, Int.reduceMul, Int.reduceNeg, Int.reduceToNat, hfa])) | refine call_f (of_good (by omega) (by omega)) rfl ?_ | refine callQ_f (of_good (by omega) (by omega)) rfl ?_ | refine call_f (add_w (by assumption) (by assumption) (by omega) (by omega)) rfl ?_ | refine callQ_f (add_w (by assumption) (by assumption) (by omega) (by omega)) rfl ?_ | refine call_f (mul_w (by assumption) (by assumption) (by omega) (by omega)) rfl ?_ | refine callQ_f (mul_w (by assumption) (by assumption) (by omega) (by omega)) rfl ?_ | refine And.intro (by omega) ?_ | refine And.intro (And.intro (by omega) (by omega)) ?_)
    exact Frz.own0 rfl (by rw [List.length_map, tmR_len])
def stpR (p : List Rat) (m : List (List Rat)) : List Rat := if chkM m = 0 ∧ p.length = m.length then tmR p m else []
def stpE (p : List Rat) (m : List (List Rat)) : Int := if chkM m ≠ 0 then chkM m else if p.length ≠ m.length then 8 else 0
theorem chk_sq (hm : FrM b ys m) (h : chkM m = 0) : SqM b ys m ∧ 1 ≤ m.length ∧ ∀ r ∈ m, chancesB r = true := by
  unfold chkM at h
  split at h
  · cases h
  unfold sqM at h
  split at h
  · cases h
  split at h
  · cases h
  rename_i a b c
  exact ⟨⟨hm, Classical.not_not.1 b, by omega⟩, by omega, Classical.not_not.1 c⟩
set_option maxRecDepth 100000 in
theorem step_w (hp : Frs a ps p) (hm : FrM b ys m) (h1 : 1 ≤ a) (h2 : 1 ≤ b) (ha : a ≤ 10000000) (hb : b ≤ 10000000) (hpx : p.length ≤ 140737488355328) (hmx : m.length ≤ 140737488355328) : Good Tryd.prog 9 [.fz 3 ps, .fz 1 ys] (.tup [frs (stpR p m), I (stpE p m)]) := by
  have hc := check_w hm h2 hb hmx
  by_cases h0 : chkM m = 0
  case neg =>
    rw [show stpR p m = [] by unfold stpR; rw [if_neg fun h => h0 h.1], show stpE p m = chkM m by unfold stpE; rw [if_pos h0]]
    refine good_of Tryd.func9 rfl (by kernel_rfl) fun X hO hrd => ?_; rw [Tryd.ntmps9, Tryd.results9]; simp only [ast0, List.map_cons, List.map_nil, List.length_cons, List.length_nil, Nat.reduceAdd, Nat.reduceSub, List.replicate_succ, List.replicate_zero, List.cons_append, List.nil_append]
    repeat (first | (with_reducible first | refine W_seq fun K hK => ?_ | refine J_block ?_ | refine J_skip ?_ | refine J_exit ?_ | refine J_ret ?_ | refine J_region ?_  | refine J_drawn mixed (by kernel_rfl) ?_ | refine aApp_sl ?_ | refine aApp_old ?_ | refine J_c ?_ | refine Jc_true ?_ | refine Jc_false ?_ | exact Frz.f _ | (refine Kont.go (by assumption) ?_) | (simp (config := { maxSteps := 3000000 }) (disch := omega) only [go_sem, Nat.reduceEqDiff, ↓reduceIte, Nat.reduceAdd, Nat.reduceLT, Nat.reduceLeDiff, Int.reduceLT, Int.reduceLE, Int.reduceEq, Int.reduceNe, Int.reduceAdd, Int.reduceSub, Int.reduceMul, Int.reduceNeg, Int.reduceToNat])) | refine And.intro (by omega) ?_ | refine And.intro (And.intro (by omega) (by omega)) ?_)
    refine call_f hc rfl ?_
    repeat (first | (with_reducible first | refine W_seq fun K hK => ?_ | refine J_block ?_ | refine J_skip ?_ | refine J_exit ?_ | refine J_ret ?_ | refine J_region ?_  | refine J_drawn mixed (by kernel_rfl) ?_ | refine aApp_sl ?_ | refine aApp_old ?_ | refine J_c ?_ | refine Jc_true ?_ | refine Jc_false ?_ | exact Frz.f _ | (refine Kont.go (by assumption) ?_) | (simp (config := { maxSteps := 3000000 }) (disch := omega) only [go_sem, Nat.reduceEqDiff, ↓reduceIte, Nat.reduceAdd, Nat.reduceLT, Nat.reduceLeDiff, Int.reduceLT, Int.reduceLE, Int.reduceEq, Int.reduceNe, Int.reduceAdd, Int.reduceSub, Int.reduceMul, Int.reduceNeg, Int.reduceToNat, h0])) | refine And.intro (by omega) ?_ | refine And.intro (And.intro (by omega) (by omega)) ?_)
    exact ⟨_, rfl, FrzL.cons (.nil _) (FrzL.cons (.f _) (FrzL.nil _))⟩
  rw [h0] at hc
  by_cases hl : p.length = m.length
  case neg =>
    rw [show stpR p m = [] by unfold stpR; rw [if_neg fun h => hl h.2], show stpE p m = 8 by unfold stpE; rw [if_neg (by omega), if_pos hl]]
    refine good_of Tryd.func9 rfl (by kernel_rfl) fun X hO hrd => ?_; rw [Tryd.ntmps9, Tryd.results9]; simp only [ast0, List.map_cons, List.map_nil, List.length_cons, List.length_nil, Nat.reduceAdd, Nat.reduceSub, List.replicate_succ, List.replicate_zero, List.cons_append, List.nil_append]
    repeat (first | (with_reducible first | refine W_seq fun K hK => ?_ | refine J_block ?_ | refine J_skip ?_ | refine J_exit ?_ | refine J_ret ?_ | refine J_region ?_  | refine J_drawn mixed (by kernel_rfl) ?_ | refine aApp_sl ?_ | refine aApp_old ?_ | refine J_c ?_ | refine Jc_true ?_ | refine Jc_false ?_ | exact Frz.f _ | (refine Kont.go (by assumption) ?_) | (simp (config := { maxSteps := 3000000 }) (disch := omega) only [go_sem, Nat.reduceEqDiff, ↓reduceIte, Nat.reduceAdd, Nat.reduceLT, Nat.reduceLeDiff, Int.reduceLT, Int.reduceLE, Int.reduceEq, Int.reduceNe, Int.reduceAdd, Int.reduceSub, Int.reduceMul, Int.reduceNeg, Int.reduceToNat])) | refine And.intro (by omega) ?_ | refine And.intro (And.intro (by omega) (by omega)) ?_)
    refine call_f hc rfl ?_
    repeat (first | (with_reducible first | refine W_seq fun K hK => ?_ | refine J_block ?_ | refine J_skip ?_ | refine J_exit ?_ | refine J_ret ?_ | refine J_region ?_  | refine J_drawn mixed (by kernel_rfl) ?_ | refine aApp_sl ?_ | refine aApp_old ?_ | refine J_c ?_ | refine Jc_true ?_ | refine Jc_false ?_ | exact Frz.f _ | (refine Kont.go (by assumption) ?_) | (simp (config := { maxSteps := 3000000 }) (disch := omega) only [go_sem, Nat.reduceEqDiff, ↓reduceIte, Nat.reduceAdd, Nat.reduceLT, Nat.reduceLeDiff, Int.reduceLT, Int.reduceLE, Int.reduceEq, Int.reduceNe, Int.reduceAdd, Int.reduceSub, Int.reduceMul, Int.reduceNeg, Int.reduceToNat, hp.len, hm.len, hl, Int.natCast_inj])) | refine And.intro (by omega) ?_ | refine And.intro (And.intro (by omega) (by omega)) ?_)
    exact ⟨_, rfl, FrzL.cons (.nil _) (FrzL.cons (.f _) (FrzL.nil _))⟩
  rw [show stpR p m = tmR p m by unfold stpR; rw [if_pos ⟨h0, hl⟩], show stpE p m = 0 by unfold stpE; rw [if_neg (by omega), if_neg (by omega)]]
  refine good_of Tryd.func9 rfl (by kernel_rfl) fun X hO hrd => ?_; rw [Tryd.ntmps9, Tryd.results9]; simp only [ast0, List.map_cons, List.map_nil, List.length_cons, List.length_nil, Nat.reduceAdd, Nat.reduceSub, List.replicate_succ, List.replicate_zero, List.cons_append, List.nil_append]
  repeat (first | (with_reducible first | refine W_seq fun K hK => ?_ | refine J_block ?_ | refine J_skip ?_ | refine J_exit ?_ | refine J_ret ?_ | refine J_region ?_  | refine J_drawn mixed (by kernel_rfl) ?_ | refine aApp_sl ?_ | refine aApp_old ?_ | refine J_c ?_ | refine Jc_true ?_ | refine Jc_false ?_ | exact Frz.f _ | (refine Kont.go (by assumption) ?_) | (simp (config := { maxSteps := 3000000 }) (disch := omega) only [go_sem, Nat.reduceEqDiff, ↓reduceIte, Nat.reduceAdd, Nat.reduceLT, Nat.reduceLeDiff, Int.reduceLT, Int.reduceLE, Int.reduceEq, Int.reduceNe, Int.reduceAdd, Int.reduceSub, Int.reduceMul, Int.reduceNeg, Int.reduceToNat])) | refine And.intro (by omega) ?_ | refine And.intro (And.intro (by omega) (by omega)) ?_)
  refine call_f hc rfl ?_
  repeat (first | (with_reducible first | refine W_seq fun K hK => ?_ | refine J_block ?_ | refine J_skip ?_ | refine J_exit ?_ | refine J_ret ?_ | refine J_region ?_  | refine J_drawn mixed (by kernel_rfl) ?_ | refine aApp_sl ?_ | refine aApp_old ?_ | refine J_c ?_ | refine Jc_true ?_ | refine Jc_false ?_ | exact Frz.f _ | (refine Kont.go (by assumption) ?_) | (simp (config := { maxSteps := 3000000 }) (disch := omega) only [go_sem, Nat.reduceEqDiff, ↓reduceIte, Nat.reduceAdd, Nat.reduceLT, Nat.reduceLeDiff, Int.reduceLT, Int.reduceLE, Int.reduceEq, Int.reduceNe, Int.reduceAdd, Int.reduceSub, Int.reduceMul, Int.reduceNeg, Int.reduceToNat, hp.len, hm.len, hl])) | refine And.intro (by omega) ?_ | refine And.intro (And.intro (by omega) (by omega)) ?_)
  refine call_f (times_w hp (chk_sq hm h0).1 h1 h2 (by omega) (by omega) hl) rfl ?_
  repeat (first | (with_reducible first | refine W_seq fun K hK => ?_ | refine J_block ?_ | refine J_skip ?_ | refine J_exit ?_ | refine J_ret ?_ | refine J_region ?_  | refine J_drawn mixed (by kernel_rfl) ?_ | refine aApp_sl ?_ | refine aApp_old ?_ | refine J_c ?_ | refine Jc_true ?_ | refine Jc_false ?_ | exact Frz.f _ | (refine Kont.go (by assumption) ?_) | (simp (config := { maxSteps := 3000000 }) (disch := omega) only [go_sem, Nat.reduceEqDiff, ↓reduceIte, Nat.reduceAdd, Nat.reduceLT, Nat.reduceLeDiff, Int.reduceLT, Int.reduceLE, Int.reduceEq, Int.reduceNe, Int.reduceAdd, Int.reduceSub, Int.reduceMul, Int.reduceNeg, Int.reduceToNat])) | refine And.intro (by omega) ?_ | refine And.intro (And.intro (by omega) (by omega)) ?_)
  exact ⟨_, rfl, FrzL.fs [_, _]⟩
end
end Go.Proofs.YtcgagiimlkjcpaaDoor
set_option linter.unusedVariables false
set_option linter.unusedSimpArgs false
namespace Go.Proofs.YtcgagiimlkjcpaaDoor
open Go Go.RowKit
set_option maxRecDepth 100000 in
theorem chone_w (b : Bool) : Good Tryd.prog 29 [Bo b] (I (if b = true then 1 else 0)) := by
  cases b with
  | true =>
    refine good_of Tryd.func29 rfl (by kernel_rfl) fun X hO hrd => ?_; rw [Tryd.ntmps29, Tryd.results29]; simp only [ast0, List.map_cons, List.map_nil, List.length_cons, List.length_nil, Nat.reduceAdd, Nat.reduceSub, List.replicate_succ, List.replicate_zero, List.cons_append, List.nil_append]
    repeat (first | (with_reducible first | refine W_seq fun K hK => ?_ | refine J_block ?_ | refine J_skip ?_ | refine J_exit ?_ | refine J_ret ?_ | refine J_region ?_  | refine J_drawn mixed (by kernel_rfl) ?_ | refine aApp_sl ?_ | refine aApp_old ?_ | refine J_c ?_ | refine Jc_true ?_ | refine Jc_false ?_ | exact Frz.f _ | (refine Kont.go (by assumption) ?_) | (simp (config := { maxSteps := 3000000 }) (disch := omega) only [go_sem, Nat.reduceEqDiff, ↓reduceIte, Nat.reduceAdd, Nat.reduceLT, Nat.reduceLeDiff, Int.reduceLT, Int.reduceLE, Int.reduceEq, Int.reduceNe, Int.reduceAdd, Int.reduceSub, Int.reduceMul, Int.reduceNeg, Int.reduceToNat])) | refine And.intro (by omega) ?_ | refine And.intro (And.intro (by omega) (by omega)) ?_)
  | false =>
    refine good_of Tryd.func29 rfl (by kernel_rfl) fun X hO hrd => ?_; rw [Tryd.ntmps29, Tryd.results29]; simp only [ast0, List.map_cons, List.map_nil, List.length_cons, List.length_nil, Nat.reduceAdd, Nat.reduceSub, List.replicate_succ, List.replicate_zero, List.cons_append, List.nil_append]
    repeat (first | (with_reducible first | refine W_seq fun K hK => ?_ | refine J_block ?_ | refine J_skip ?_ | refine J_exit ?_ | refine J_ret ?_ | refine J_region ?_  | refine J_drawn mixed (by kernel_rfl) ?_ | refine aApp_sl ?_ | refine aApp_old ?_ | refine J_c ?_ | refine Jc_true ?_ | refine Jc_false ?_ | exact Frz.f _ | (refine Kont.go (by assumption) ?_) | (simp (config := { maxSteps := 3000000 }) (disch := omega) only [go_sem, Nat.reduceEqDiff, ↓reduceIte, Nat.reduceAdd, Nat.reduceLT, Nat.reduceLeDiff, Int.reduceLT, Int.reduceLE, Int.reduceEq, Int.reduceNe, Int.reduceAdd, Int.reduceSub, Int.reduceMul, Int.reduceNeg, Int.reduceToNat])) | refine And.intro (by omega) ?_ | refine And.intro (And.intro (by omega) (by omega)) ?_)
section
variable {a b n : Nat} {xs ys : List FV} {A B : List (List Rat)}
end
def szP (k : Nat) : Nat → Nat
  | 0 => k + 8
  | j + 1 => 12 * szP k j + 14
structure PwI where
  j : Nat
  k : Nat
  d : Nat
  h : Nat
  hv : List FV
  hm : List (List Rat)
structure PwOk (s n k0 : Nat) (A : Mx) (x : PwI) : Prop where
  j5 : x.j ≤ 5
  kl : x.k < 2 ^ (5 - x.j)
  hk : x.d + x.k * x.h = k0
  sq : SqM (szP s x.j) x.hv x.hm
  ln : x.hm.length = n
  eq : EqM n (at2 x.hm) (powM n A x.h)
  dz : ∀ i k, i < n → k < n → Fz (powM n A x.d i k) (szP s x.j)
def idTo (i x : Nat) : List FV := (List.range x).map fun k => fr (idM i k)
theorem idTo_zero {i : Nat} : idTo i 0 = [] := rfl
attribute [go_sem] idTo_zero
theorem fillA_z {n k : Nat} {f : Nat → FV} {z : FV} (h : k < n) : (fillL n k f z).map AV.f = ((fillL n k f z).map AV.f).set k (.f z) := by
  rw [← List.map_set]
  congr 1
  apply List.ext_getElem?
  intro j
  by_cases e : j = k
  · subst e
    rw [List.getElem?_set_self (by rw [fill_len]; exact h), fill_get h, if_neg (by omega)]
  · rw [List.getElem?_set_ne (Ne.symm e)]
end Go.Proofs.YtcgagiimlkjcpaaDoor
