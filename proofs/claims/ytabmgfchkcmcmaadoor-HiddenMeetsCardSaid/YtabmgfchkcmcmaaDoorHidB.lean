/- Hidden chains: all ways to a state, and on from it: walked. Conditions: numbers of 1000 bytes each. -/
import Derived.Test.YtabmgfchkcmcmaaDoorHidA
import Derived.Test.YtabmgfchkcmcmaaDoorHidL
set_option linter.unusedVariables false
set_option linter.unusedSimpArgs false
namespace Go.Proofs.YtabmgfchkcmcmaaDoor
open Go Go.RowKit
def opF (op : Rat → Rat → Rat) (f : Nat → Rat) : Nat → Rat
  | 0 => 0
  | n + 1 => op (opF op f n) (f n)
theorem opF_sum {f : Nat → Rat} : ∀ {n : Nat}, opF (fun a b => a + b) f n = sumF f n := by
  intro n
  induction n with
  | zero => rfl
  | succ n ih => show opF _ f n + f n = sumF f n + f n; rw [ih]
theorem opF_max {f : Nat → Rat} : ∀ {n : Nat}, opF grt f n = maxF f n := by
  intro n
  induction n with
  | zero => rfl
  | succ n ih => show grt (opF _ f n) (f n) = grt (maxF f n) (f n); rw [ih]
def HM.gA (h : HM) (op : Rat → Rat → Rat) : Nat → Nat → Rat
  | 0, i => h.a i * h.sh i (h.s 0)
  | t + 1, i => opF op (fun k => HM.gA h op t k * h.mv k i) h.n * h.sh i (h.s (t + 1))
def HM.gU (h : HM) (op : Rat → Rat → Rat) : Nat → Nat → Rat
  | 0, i => 1
  | u + 1, i => opF op (fun k => h.mv i k * h.sh k (h.s (h.T - 1 - u)) * HM.gU h op u k) h.n
def HM.gB (h : HM) (op : Rat → Rat → Rat) (t i : Nat) : Rat := h.gU op (h.T - 1 - t) i
theorem HM.gA_fw (h : HM) : ∀ t i, h.gA (fun a b => a + b) t i = h.fw t i := by
  intro t
  induction t with
  | zero => intro i; rfl
  | succ t ih => intro i; show opF _ _ _ * _ = sumF _ _ * _; rw [opF_sum]; congr 1; exact sumF_congr fun k _ => by rw [ih]
theorem HM.gU_bw (h : HM) : ∀ u i, h.gU (fun a b => a + b) u i = h.bwU u i := by
  intro u
  induction u with
  | zero => intro i; rfl
  | succ u ih => intro i; show opF _ _ _ = sumF _ _; rw [opF_sum]; exact sumF_congr fun k _ => by rw [ih]
theorem HM.gU_mx (h : HM) : ∀ u i, h.gU grt u i = h.mxU u i := by
  intro u
  induction u with
  | zero => intro i; rfl
  | succ u ih => intro i; show opF _ _ _ = maxF _ _; rw [opF_max]; exact maxF_congr fun k _ => by rw [ih]
/-- A hidden chain of numbers, and what is seen of it. -/
def hm (st : List Rat) (mv sh : List (List Rat)) (seen : List Int) : HM := ⟨st.length, fun i => st.getD i 0, at2 mv, at2 sh, fun t => (seen.getD t 0).toNat, seen.length⟩
/-- How ways are joined. -/
structure Join (j : FuncId) (op : Rat → Rat → Rat) : Prop where
  good : ∀ {a b : Rat} {x y : Nat}, Fz a x → Fz b y → x ≤ 34359738368 → y ≤ 34359738368 → Good Tryd.prog j [fr a, fr b] (fr (op a b))
  fz : ∀ {a b : Rat} {x y : Nat}, Fz a x → Fz b y → Fz (op a b) (x + y + 1)
theorem join_add : Join 103 (fun a b => a + b) := ⟨fun ha hb h1 h2 => add_w (IsFr.c ha) (IsFr.c hb) h1 h2, fun ha hb => ha.add hb⟩
set_option maxRecDepth 100000 in
theorem greater_w {a b : Rat} {x y : Nat} (ha : Fz a x) (hb : Fz b y) (h1 : x ≤ 34359738368) (h2 : y ≤ 34359738368) : Good Tryd.prog 124 [fr a, fr b] (fr (grt a b)) := by
  have fa := IsFr.c ha
  have fb := IsFr.c hb
  refine good_of Tryd.func124 rfl (by kernel_rfl) fun X hO => ?_; rw [Tryd.ntmps124, Tryd.results124]; simp only [ast0, List.map_cons, List.map_nil, List.length_cons, List.length_nil, Nat.reduceAdd, Nat.reduceSub, List.replicate_succ, List.replicate_zero, List.cons_append, List.nil_append]
  repeat (first | (with_reducible first | refine W_seq fun K hK => ?_ | refine J_block ?_ | refine J_skip ?_ | refine J_exit ?_ | refine J_ret ?_ | refine J_region ?_  | refine J_drawn mixed (by kernel_rfl) ?_ | refine aApp_sl ?_ | refine aApp_old ?_ | refine J_c ?_ | refine Jc_true ?_ | refine Jc_false ?_ | exact Frz.f _ | (refine Kont.go (by assumption) ?_) | (simp (config := { maxSteps := 3000000 }) (disch := omega) only [go_sem, Nat.reduceEqDiff, ↓reduceIte, Nat.reduceAdd, Nat.reduceLT, Nat.reduceLeDiff, Int.reduceLT, Int.reduceLE, Int.reduceEq, Int.reduceNe, Int.reduceAdd, Int.reduceSub, Int.reduceMul, Int.reduceNeg, Int.reduceToNat])) | refine call_f (cmp_w (by assumption) (by assumption) (by omega) (by omega)) rfl ?_ | refine callQ_f (cmp_w (by assumption) (by assumption) (by omega) (by omega)) rfl ?_ | refine And.intro (by omega) ?_ | refine And.intro (And.intro (by omega) (by omega)) ?_)
  refine Jc_if (fun hlt => ?_) (fun hlt => ?_) <;> try simp only [decide_eq_true_eq, decide_eq_false_iff_not, Bool.not_eq_true', Bool.not_eq_false', Bool.not_true, Bool.not_false, Int.ofNat_lt, Int.ofNat_le, Int.natCast_inj, Classical.not_not] at hlt
  · have e : grt a b = b := by unfold grt; rw [if_pos (cmpR_lt.1 hlt)]
    repeat (first | (with_reducible first | refine W_seq fun K hK => ?_ | refine J_block ?_ | refine J_skip ?_ | refine J_exit ?_ | refine J_ret ?_ | refine J_region ?_  | refine J_drawn mixed (by kernel_rfl) ?_ | refine aApp_sl ?_ | refine aApp_old ?_ | refine J_c ?_ | refine Jc_true ?_ | refine Jc_false ?_ | exact Frz.f _ | (refine Kont.go (by assumption) ?_) | (simp (config := { maxSteps := 3000000 }) (disch := omega) only [go_sem, Nat.reduceEqDiff, ↓reduceIte, Nat.reduceAdd, Nat.reduceLT, Nat.reduceLeDiff, Int.reduceLT, Int.reduceLE, Int.reduceEq, Int.reduceNe, Int.reduceAdd, Int.reduceSub, Int.reduceMul, Int.reduceNeg, Int.reduceToNat])) | refine call_f (cmp_w (by assumption) (by assumption) (by omega) (by omega)) rfl ?_ | refine callQ_f (cmp_w (by assumption) (by assumption) (by omega) (by omega)) rfl ?_ | refine And.intro (by omega) ?_ | refine And.intro (And.intro (by omega) (by omega)) ?_)
    rw [e]; exact Frz.f _
  · have e : grt a b = a := by unfold grt; rw [if_neg fun hh => hlt (cmpR_lt.2 hh)]
    repeat (first | (with_reducible first | refine W_seq fun K hK => ?_ | refine J_block ?_ | refine J_skip ?_ | refine J_exit ?_ | refine J_ret ?_ | refine J_region ?_  | refine J_drawn mixed (by kernel_rfl) ?_ | refine aApp_sl ?_ | refine aApp_old ?_ | refine J_c ?_ | refine Jc_true ?_ | refine Jc_false ?_ | exact Frz.f _ | (refine Kont.go (by assumption) ?_) | (simp (config := { maxSteps := 3000000 }) (disch := omega) only [go_sem, Nat.reduceEqDiff, ↓reduceIte, Nat.reduceAdd, Nat.reduceLT, Nat.reduceLeDiff, Int.reduceLT, Int.reduceLE, Int.reduceEq, Int.reduceNe, Int.reduceAdd, Int.reduceSub, Int.reduceMul, Int.reduceNeg, Int.reduceToNat])) | refine call_f (cmp_w (by assumption) (by assumption) (by omega) (by omega)) rfl ?_ | refine callQ_f (cmp_w (by assumption) (by assumption) (by omega) (by omega)) rfl ?_ | refine And.intro (by omega) ?_ | refine And.intro (And.intro (by omega) (by omega)) ?_)
    rw [e]; exact Frz.f _
theorem join_grt : Join 124 grt := ⟨greater_w, fun ha hb => by
  unfold grt
  split
  · exact hb.up (by omega)
  · exact ha.up (by omega)⟩
/-- What is known behind the tests. -/
structure HOk (k : Nat) (fs ms ss : List FV) (st : List Rat) (mv sh : List (List Rat)) (seen : List Int) : Prop where
  f : HidF k fs ms ss st mv sh
  n1 : 1 ≤ st.length
  n4 : st.length ≤ 4
  lm : mv.length = st.length
  ls : sh.length = st.length
  rm : ∀ i, i < st.length → (mv.getD i []).length = st.length
  rs : ∀ i, i < st.length → (sh.getD i []).length = hidN sh
  t8 : seen.length ≤ 8
  se : ∀ t, t < seen.length → 0 ≤ seen.getD t 0 ∧ seen.getD t 0 < hidN sh
theorem mayE_ok {k : Nat} {fs ms ss : List FV} {st : List Rat} {mv sh : List (List Rat)} {seen : List Int} (hf : HidF k fs ms ss st mv sh) (h : mayE st mv sh seen = 0) : HOk k fs ms ss st mv sh seen := by
  unfold mayE at h
  split at h
  · rename_i hh; exact absurd h hh
  split at h
  · cases h
  split at h
  · cases h
  rename_i a b c
  obtain ⟨a1, a2, a3, a4, a5, a6, a7, _⟩ := hidE_ok (Classical.not_not.1 a)
  exact ⟨hf, a1, a2, a3, a4, fun i hi => (a7 i hi).1, fun i hi => (a7 i hi).2, by omega, Classical.not_not.1 c⟩
section
variable {k : Nat} {fs ms ss : List FV} {st : List Rat} {mv sh : List (List Rat)} {seen : List Int} {i j t : Nat}
theorem HOk.a3 (h : HOk k fs ms ss st mv sh seen) (hi : i < st.length) : ∃ g n d, fs[i]? = some (frR g n d) ∧ IsFr (frR g n d) (st.getD i 0) k := by
  obtain ⟨g, n, d, h1, h2⟩ := h.f.ist.at3 hi
  exact ⟨g, n, d, h1, by rw [lget_lt st 0 hi]; exact h2⟩
theorem HOk.m3 (h : HOk k fs ms ss st mv sh seen) (hi : i < st.length) (hj : j < st.length) : ∃ xs g n d, ms[i]? = some (.fz 3 xs) ∧ xs[j]? = some (frR g n d) ∧ IsFr (frR g n d) (at2 mv i j) k := by
  have hi' : i < mv.length := by rw [h.lm]; exact hi
  have hr := h.rm i hi
  obtain ⟨xs, h1, h2⟩ := h.f.imv.at hi'
  rw [lget_lt mv [] hi'] at hr
  obtain ⟨g, n, d, h3, h4⟩ := h2.at3 (i := j) (by rw [hr]; exact hj)
  exact ⟨xs, g, n, d, h1, h3, by unfold at2; rw [lget_lt mv [] hi', lget_lt _ 0 (by rw [hr]; exact hj)]; exact h4⟩
theorem HOk.s3 (h : HOk k fs ms ss st mv sh seen) (hi : i < st.length) (ht : t < seen.length) : ∃ xs g n d, ss[i]? = some (.fz 3 xs) ∧ xs[(seen.getD t 0).toNat]? = some (frR g n d) ∧ IsFr (frR g n d) (at2 sh i (seen.getD t 0).toNat) k := by
  have hi' : i < sh.length := by rw [h.ls]; exact hi
  have hr := h.rs i hi
  have hs := h.se t ht
  obtain ⟨xs, h1, h2⟩ := h.f.ish.at hi'
  rw [lget_lt sh [] hi'] at hr
  obtain ⟨g, n, d, h3, h4⟩ := h2.at3 (i := (seen.getD t 0).toNat) (by rw [hr]; omega)
  exact ⟨xs, g, n, d, h1, h3, by unfold at2; rw [lget_lt sh [] hi', lget_lt _ 0 (by rw [hr]; omega)]; exact h4⟩
theorem IsFr.of3 {g : Bool} {n d : ByteArray} {q : Rat} (h : IsFr (frR g n d) q k) (hk : 1 ≤ k) : Fz q k := h.fz hk
/-- How long the numbers grow. -/
def szH (k : Nat) : Nat → Nat
  | 0 => 2 * k + 8
  | t + 1 => 4 * szH k t + 9 * k + 12
theorem szH_eq (k t : Nat) : szH k t + 3 * k + 4 = (5 * k + 12) * 4 ^ t := by
  induction t with
  | zero => show 2 * k + 8 + 3 * k + 4 = (5 * k + 12) * 1; omega
  | succ t ih =>
    show 4 * szH k t + 9 * k + 12 + 3 * k + 4 = (5 * k + 12) * 4 ^ (t + 1)
    rw [Nat.pow_succ, ← Nat.mul_assoc, ← ih]
    omega
theorem szH_le {k t : Nat} (hk : k ≤ 1000) (ht : t ≤ 8) : szH k t ≤ 400000000 := by
  have h1 := szH_eq k t
  have h2 : 4 ^ t ≤ 4 ^ 8 := Nat.pow_le_pow_right (by decide) ht
  have h3 := Nat.mul_le_mul (show 5 * k + 12 ≤ 5012 by omega) h2
  have h4 : (5012 : Nat) * 4 ^ 8 ≤ 400000000 := by decide
  omega
theorem opF_fz {op : Rat → Rat → Rat} {jj : FuncId} (hj : Join jj op) {f : Nat → Rat} {s : Nat} : ∀ {n : Nat}, (∀ k, k < n → Fz (f k) s) → Fz (opF op f n) (8 + n * (s + 1)) := by
  intro n
  induction n with
  | zero => intro _; exact (Fz.int (n := 0) (by decide)).up (by omega)
  | succ n ih => intro h; exact (hj.fz (ih fun k hk => h k (by omega)) (h n (by omega))).up (by rw [Nat.add_mul]; omega)
theorem HOk.hA (h : HOk k fs ms ss st mv sh seen) (h1 : 1 ≤ k) (hi : i < st.length) : Fz ((hm st mv sh seen).a i) k := by
  obtain ⟨g, n, d, _, h2⟩ := h.a3 hi
  exact h2.fz h1
theorem HOk.hM (h : HOk k fs ms ss st mv sh seen) (h1 : 1 ≤ k) (hi : i < st.length) (hj : j < st.length) : Fz ((hm st mv sh seen).mv i j) k := by
  obtain ⟨xs, g, n, d, _, _, h2⟩ := h.m3 hi hj
  exact h2.fz h1
theorem HOk.hS (h : HOk k fs ms ss st mv sh seen) (h1 : 1 ≤ k) (hi : i < st.length) (ht : t < seen.length) : Fz ((hm st mv sh seen).sh i ((hm st mv sh seen).s t)) k := by
  obtain ⟨xs, g, n, d, _, _, h2⟩ := h.s3 hi ht
  exact h2.fz h1
theorem HOk.fA (h : HOk k fs ms ss st mv sh seen) (h1 : 1 ≤ k) {op : Rat → Rat → Rat} {jj : FuncId} (hj : Join jj op) : ∀ {t : Nat}, t < seen.length → ∀ {i}, i < st.length → Fz ((hm st mv sh seen).gA op t i) (szH k t) := by
  intro t
  induction t with
  | zero => intro ht i hi; exact ((h.hA h1 hi).mul (h.hS h1 hi ht)).up (by show k + k ≤ 2 * k + 8; omega)
  | succ t ih =>
    intro ht i hi
    have n4 : (hm st mv sh seen).n ≤ 4 := h.n4
    have f1 := opF_fz hj (f := fun k => (hm st mv sh seen).gA op t k * (hm st mv sh seen).mv k i) (n := (hm st mv sh seen).n) (s := szH k t + k) fun q hq => (ih (by omega) hq).mul (h.hM h1 hq hi)
    refine (f1.mul (h.hS h1 hi ht)).up ?_
    have := Nat.mul_le_mul_right (szH k t + k + 1) n4
    show _ ≤ 4 * szH k t + 9 * k + 12
    omega
theorem HOk.fU (h : HOk k fs ms ss st mv sh seen) (h1 : 1 ≤ k) {op : Rat → Rat → Rat} {jj : FuncId} (hj : Join jj op) : ∀ {u : Nat}, u < seen.length → ∀ {i}, i < st.length → Fz ((hm st mv sh seen).gU op u i) (szH k u) := by
  intro u
  induction u with
  | zero => intro hu i hi; exact (Fz.int (n := 1) (by decide)).up (by show 8 ≤ 2 * k + 8; omega)
  | succ u ih =>
    intro hu i hi
    have n4 : (hm st mv sh seen).n ≤ 4 := h.n4
    have hT : (hm st mv sh seen).T = seen.length := rfl
    have f1 := opF_fz hj (f := fun k => (hm st mv sh seen).mv i k * (hm st mv sh seen).sh k ((hm st mv sh seen).s ((hm st mv sh seen).T - 1 - u)) * (hm st mv sh seen).gU op u k) (n := (hm st mv sh seen).n) (s := k + k + szH k u) fun q hq => ((h.hM h1 hi hq).mul (h.hS h1 hq (by omega))).mul (ih (by omega) hq)
    refine f1.up ?_
    have := Nat.mul_le_mul_right (k + k + szH k u + 1) n4
    show _ ≤ 4 * szH k u + 9 * k + 12
    omega
end
def aRow (h : HM) (op : Rat → Rat → Rat) (t : Nat) : List Rat := (List.range h.n).map (h.gA op t)
def aR (h : HM) (op : Rat → Rat → Rat) (x : Nat) : List (List Rat) := (List.range x).map (aRow h op)
theorem aR_len {h : HM} {op : Rat → Rat → Rat} {x : Nat} : (aR h op x).length = x := by simp [aR]
theorem aRow_len {h : HM} {op : Rat → Rat → Rat} {t : Nat} : (aRow h op t).length = h.n := by simp [aRow]
theorem aR_next {h : HM} {op : Rat → Rat → Rat} {x : Nat} : (aR h op x).map frs ++ [frs (aRow h op x)] = (aR h op (x + 1)).map frs := by simp [aR, List.range_succ]
theorem aR_get {h : HM} {op : Rat → Rat → Rat} {x i : Nat} (hi : i < x) : ((aR h op x).map frs)[i]? = some (frs (aRow h op i)) := by simp [aR, hi]
theorem aR_getA {h : HM} {op : Rat → Rat → Rat} {x i : Nat} (hi : i < x) : (((aR h op x).map frs).map AV.f)[i]? = some (.f (frs (aRow h op i))) := by rw [List.getElem?_map, aR_get hi]; rfl
theorem aRow_get {h : HM} {op : Rat → Rat → Rat} {t i : Nat} (hi : i < h.n) : ((aRow h op t).map fr)[i]? = some (fr (h.gA op t i)) := by simp [aRow, hi]
theorem opF_zero {op : Rat → Rat → Rat} {f : Nat → Rat} : opF op f 0 = ((0 : Int) : Rat) := rfl
theorem opF_succ {op : Rat → Rat → Rat} {f : Nat → Rat} {n : Nat} : op (opF op f n) (f n) = opF op f (n + 1) := rfl
set_option maxRecDepth 100000 in
set_option maxHeartbeats 8000000 in
theorem ahead_w {k : Nat} {fs ms ss : List FV} {st : List Rat} {mv sh : List (List Rat)} {seen : List Int} (h : HOk k fs ms ss st mv sh seen) (h1 : 1 ≤ k) (hk : k ≤ 1000) (hs : ∀ x ∈ seen, -9223372036854775808 ≤ x ∧ x ≤ 9223372036854775807) {jj : FuncId} {op : Rat → Rat → Rat} (hj : Join jj op) :
    Good Tryd.prog 121 [hidV fs ms ss, ints seen, .fn jj [] []] (rowsF (aR (hm st mv sh seen) op seen.length)) := by
  have hn4 := h.n4
  have hn1 := h.n1
  have ht8 := h.t8
  obtain ⟨m, hm_⟩ : ∃ m, m = hm st mv sh seen := ⟨_, rfl⟩
  rw [← hm_]
  have hmn : m.n = st.length := by rw [hm_]; rfl
  refine good_of Tryd.func121 rfl (by kernel_rfl) fun X hO => ?_; rw [Tryd.ntmps121, Tryd.results121]; simp only [ast0, List.map_cons, List.map_nil, List.length_cons, List.length_nil, Nat.reduceAdd, Nat.reduceSub, List.replicate_succ, List.replicate_zero, List.cons_append, List.nil_append]
  repeat (first | (with_reducible first | refine W_seq fun K hK => ?_ | refine J_block ?_ | refine J_skip ?_ | refine J_exit ?_ | refine J_ret ?_ | refine J_region ?_  | refine J_drawn mixed (by kernel_rfl) ?_ | refine aApp_sl ?_ | refine aApp_old ?_ | refine J_c ?_ | refine Jc_true ?_ | refine Jc_false ?_ | exact Frz.f _ | (refine Kont.go (by assumption) ?_) | (simp (config := { maxSteps := 3000000 }) (disch := omega) only [go_sem, Nat.reduceEqDiff, ↓reduceIte, Nat.reduceAdd, Nat.reduceLT, Nat.reduceLeDiff, Int.reduceLT, Int.reduceLE, Int.reduceEq, Int.reduceNe, Int.reduceAdd, Int.reduceSub, Int.reduceMul, Int.reduceNeg, Int.reduceToNat, List.length_map])) | refine call_f (of_good (by omega) (by omega)) rfl ?_ | refine callQ_f (of_good (by omega) (by omega)) rfl ?_ | refine call_f (mul_w (by assumption) (by assumption) (by omega) (by omega)) rfl ?_ | refine callQ_f (mul_w (by assumption) (by assumption) (by omega) (by omega)) rfl ?_ | refine call_f (canon_w (by assumption) (by omega)) rfl ?_ | refine callQ_f (canon_w (by assumption) (by omega)) rfl ?_ | refine And.intro (by omega) ?_ | refine And.intro (And.intro (by omega) (by omega)) ?_)
  refine J_reserve ?_
  refine W_loop [7, 8, 9, 10, 11, 12, 13, 16, 17, 18, 19, 20, 21, 22, 23, 24, 25, 26, 27, 28, 29, 30, 31, 32, 33, 34, 35, 36, 37, 38, 39, 40, 41, 42, 43, 44, 45, 46, 47, 48, 49, 50, 51, 52, 53, 54, 55, 56, 57, 58, 59, 60, 61, 62, 63, 64, 65, 66, 67, 68, 69, 70, 71, 72, 73, 74, 75, 76, 77, 78, 79, 80, 81, 82, 83, 84, 85, 86, 87, 88, 89, 90, 91, 92, 93, 94, 95, 96, 97] (fun x : Nat => [(16, .f (I x)), (7, sl 1 1 ((aR m op x).map frs))]) (fun x : Nat => [some ⟨68, 3, [.f (hidV fs ms ss)]⟩, ob 49 1 ((aR m op x).map frs)]) (fun x : Nat => x ≤ seen.length) (fun x : Nat => seen.length - x) (0) (Nat.zero_le _) (by refine weak_of ?_ ?_ <;> simp only [go_sem, Nat.reduceAdd, Nat.reduceLT, Nat.reduceEqDiff] <;> first | rfl | exact ⟨rfl, rfl⟩ | exact Or.inl rfl | exact ⟨Or.inl rfl, Or.inl rfl⟩ | trivial | assumption | (symm; assumption)) ?_
  rintro t ht
  simp only [go_sem, Nat.reduceAdd, Nat.reduceLT, Nat.reduceEqDiff]
  repeat (first | (with_reducible first | refine W_seq fun K hK => ?_ | refine J_block ?_ | refine J_skip ?_ | refine J_exit ?_ | refine J_ret ?_ | refine J_region ?_  | refine J_drawn mixed (by kernel_rfl) ?_ | refine aApp_sl ?_ | refine aApp_old ?_ | refine J_c ?_ | refine Jc_true ?_ | refine Jc_false ?_ | exact Frz.f _ | (refine Kont.go (by assumption) ?_) | (simp (config := { maxSteps := 3000000 }) (disch := omega) only [go_sem, Nat.reduceEqDiff, ↓reduceIte, Nat.reduceAdd, Nat.reduceLT, Nat.reduceLeDiff, Int.reduceLT, Int.reduceLE, Int.reduceEq, Int.reduceNe, Int.reduceAdd, Int.reduceSub, Int.reduceMul, Int.reduceNeg, Int.reduceToNat, List.length_map])) | refine call_f (of_good (by omega) (by omega)) rfl ?_ | refine callQ_f (of_good (by omega) (by omega)) rfl ?_ | refine call_f (mul_w (by assumption) (by assumption) (by omega) (by omega)) rfl ?_ | refine callQ_f (mul_w (by assumption) (by assumption) (by omega) (by omega)) rfl ?_ | refine call_f (canon_w (by assumption) (by omega)) rfl ?_ | refine callQ_f (canon_w (by assumption) (by omega)) rfl ?_ | refine And.intro (by omega) ?_ | refine And.intro (And.intro (by omega) (by omega)) ?_)
  refine Jc_if (fun hlt => ?_) (fun hlt => ?_) <;> try simp only [decide_eq_true_eq, decide_eq_false_iff_not, Bool.not_eq_true', Bool.not_eq_false', Bool.not_true, Bool.not_false, Int.ofNat_lt, Int.ofNat_le, Int.natCast_inj, Classical.not_not] at hlt
  · have hsb := hs _ (List.getElem_mem hlt)
    have hse := h.se t hlt
    rw [lget_lt seen 0 hlt] at hse
    have hrep : List.replicate st.length (AV.f frN) = (fillL st.length 0 (fun i => fr (m.gA op t i)) frN).map .f := by rw [fill_zero, List.map_replicate]
    repeat (first | (with_reducible first | refine W_seq fun K hK => ?_ | refine J_block ?_ | refine J_skip ?_ | refine J_exit ?_ | refine J_ret ?_ | refine J_region ?_  | refine J_drawn mixed (by kernel_rfl) ?_ | refine aApp_sl ?_ | refine aApp_old ?_ | refine J_c ?_ | refine Jc_true ?_ | refine Jc_false ?_ | exact Frz.f _ | (refine Kont.go (by assumption) ?_) | (simp (config := { maxSteps := 3000000 }) (disch := omega) only [go_sem, Nat.reduceEqDiff, ↓reduceIte, Nat.reduceAdd, Nat.reduceLT, Nat.reduceLeDiff, Int.reduceLT, Int.reduceLE, Int.reduceEq, Int.reduceNe, Int.reduceAdd, Int.reduceSub, Int.reduceMul, Int.reduceNeg, Int.reduceToNat, List.length_map, map_get I seen hlt, h.f.ist.len, hrep])) | refine call_f (of_good (by omega) (by omega)) rfl ?_ | refine callQ_f (of_good (by omega) (by omega)) rfl ?_ | refine call_f (mul_w (by assumption) (by assumption) (by omega) (by omega)) rfl ?_ | refine callQ_f (mul_w (by assumption) (by assumption) (by omega) (by omega)) rfl ?_ | refine call_f (canon_w (by assumption) (by omega)) rfl ?_ | refine callQ_f (canon_w (by assumption) (by omega)) rfl ?_ | refine And.intro (by omega) ?_ | refine And.intro (And.intro (by omega) (by omega)) ?_)
    refine W_loop [11, 12, 13, 27, 28, 29, 30, 31, 32, 33, 34, 35, 36, 37, 38, 39, 40, 41, 42, 43, 44, 45, 46, 47, 48, 49, 50, 51, 52, 53, 54, 55, 56, 57, 58, 59, 60, 61, 62, 63, 64, 65, 66, 67, 68, 69, 70, 71, 72, 73, 74, 75, 76, 77, 78, 79, 80, 81, 82, 83, 84, 85, 86, 87, 88, 89, 90, 91, 92] (fun x : Nat => [(27, .f (I x))]) (fun x : Nat => [some ⟨68, 3, [.f (hidV fs ms ss)]⟩, ob 49 1 ((aR m op t).map frs), some ⟨55, 3, (fillL st.length x (fun i => fr (m.gA op t i)) frN).map .f⟩]) (fun x : Nat => x ≤ st.length) (fun x : Nat => st.length - x) (0) (Nat.zero_le _) (by refine weak_of ?_ ?_ <;> simp only [go_sem, Nat.reduceAdd, Nat.reduceLT, Nat.reduceEqDiff] <;> first | rfl | exact ⟨rfl, rfl⟩ | exact Or.inl rfl | exact ⟨Or.inl rfl, Or.inl rfl⟩ | trivial | assumption | (symm; assumption)) ?_
    rintro i hi
    simp only [go_sem, Nat.reduceAdd, Nat.reduceLT, Nat.reduceEqDiff]
    repeat (first | (with_reducible first | refine W_seq fun K hK => ?_ | refine J_block ?_ | refine J_skip ?_ | refine J_exit ?_ | refine J_ret ?_ | refine J_region ?_  | refine J_drawn mixed (by kernel_rfl) ?_ | refine aApp_sl ?_ | refine aApp_old ?_ | refine J_c ?_ | refine Jc_true ?_ | refine Jc_false ?_ | exact Frz.f _ | (refine Kont.go (by assumption) ?_) | (simp (config := { maxSteps := 3000000 }) (disch := omega) only [go_sem, Nat.reduceEqDiff, ↓reduceIte, Nat.reduceAdd, Nat.reduceLT, Nat.reduceLeDiff, Int.reduceLT, Int.reduceLE, Int.reduceEq, Int.reduceNe, Int.reduceAdd, Int.reduceSub, Int.reduceMul, Int.reduceNeg, Int.reduceToNat])) | refine call_f (of_good (by omega) (by omega)) rfl ?_ | refine callQ_f (of_good (by omega) (by omega)) rfl ?_ | refine call_f (mul_w (by assumption) (by assumption) (by omega) (by omega)) rfl ?_ | refine callQ_f (mul_w (by assumption) (by assumption) (by omega) (by omega)) rfl ?_ | refine call_f (canon_w (by assumption) (by omega)) rfl ?_ | refine callQ_f (canon_w (by assumption) (by omega)) rfl ?_ | refine And.intro (by omega) ?_ | refine And.intro (And.intro (by omega) (by omega)) ?_)
    refine Jc_if (fun hil => ?_) (fun hil => ?_) <;> try simp only [decide_eq_true_eq, decide_eq_false_iff_not, Bool.not_eq_true', Bool.not_eq_false', Bool.not_true, Bool.not_false, Int.ofNat_lt, Int.ofNat_le, Int.natCast_inj, Classical.not_not] at hil
    · obtain ⟨g1, n1, d1, x1, f1⟩ := h.a3 hil
      obtain ⟨xs2, g2, n2, d2, y2, x2, f2⟩ := h.s3 hil hlt
      rw [lget_lt seen 0 hlt] at x2 f2
      have c1 : IsFr (fr (st.getD i 0)) (st.getD i 0) k := IsFr.c (h.hA h1 hil)
      have hgetL : ∀ y, (((fillL st.length i (fun i => fr (m.gA op t i)) frN).map AV.f).set i y)[i]? = some y := fun y => List.getElem?_set_self (by simp [fill_len, hil])
      have hsetL := fillA_set (f := fun i => fr (m.gA op t i)) (z := frN) hil rfl
      by_cases t0 : t = 0
      · subst t0
        have e1 : st.getD i 0 * at2 sh i seen[0].toNat = m.gA op 0 i := by rw [hm_]; show _ = _ * at2 sh i (seen.getD 0 0).toNat; rw [lget_lt seen 0 hlt]; rfl
        repeat (first | (with_reducible first | refine W_seq fun K hK => ?_ | refine J_block ?_ | refine J_skip ?_ | refine J_exit ?_ | refine J_ret ?_ | refine J_region ?_  | refine J_drawn mixed (by kernel_rfl) ?_ | refine aApp_sl ?_ | refine aApp_old ?_ | refine J_c ?_ | refine Jc_true ?_ | refine Jc_false ?_ | exact Frz.f _ | (refine Kont.go (by assumption) ?_) | (simp (config := { maxSteps := 3000000 }) (disch := omega) only [go_sem, Nat.reduceEqDiff, ↓reduceIte, Nat.reduceAdd, Nat.reduceLT, Nat.reduceLeDiff, Int.reduceLT, Int.reduceLE, Int.reduceEq, Int.reduceNe, Int.reduceAdd, Int.reduceSub, Int.reduceMul, Int.reduceNeg, Int.reduceToNat, List.length_map, x1, fillA_get hil, hgetL, List.set_set, hil, y2, x2, e1])) | refine call_f (of_good (by omega) (by omega)) rfl ?_ | refine callQ_f (of_good (by omega) (by omega)) rfl ?_ | refine call_f (mul_w (by assumption) (by assumption) (by omega) (by omega)) rfl ?_ | refine callQ_f (mul_w (by assumption) (by assumption) (by omega) (by omega)) rfl ?_ | refine call_f (canon_w (by assumption) (by omega)) rfl ?_ | refine callQ_f (canon_w (by assumption) (by omega)) rfl ?_ | refine And.intro (by omega) ?_ | refine And.intro (And.intro (by omega) (by omega)) ?_)
        refine ⟨i + 1, by omega, by omega, weak_of ?_ ?_⟩ <;> (try simp only [go_sem, Nat.reduceAdd, Nat.reduceLT, Nat.reduceEqDiff]) <;> (try first | done | omega | rfl | exact ⟨rfl, rfl⟩ | trivial)
      · have tp : 0 < t := by omega
        obtain ⟨t', rfl⟩ : ∃ t', t = t' + 1 := ⟨t - 1, by omega⟩
        have e1 : (((t' + 1 : Nat) : Int) - 1) = (t' : Int) := by omega
        have l1 := aR_getA (h := m) (op := op) (x := t' + 1) (i := t') (by omega)
        repeat (first | (with_reducible first | refine W_seq fun K hK => ?_ | refine J_block ?_ | refine J_skip ?_ | refine J_exit ?_ | refine J_ret ?_ | refine J_region ?_  | refine J_drawn mixed (by kernel_rfl) ?_ | refine aApp_sl ?_ | refine aApp_old ?_ | refine J_c ?_ | refine Jc_true ?_ | refine Jc_false ?_ | exact Frz.f _ | (refine Kont.go (by assumption) ?_) | (simp (config := { maxSteps := 3000000 }) (disch := omega) only [go_sem, Nat.reduceEqDiff, ↓reduceIte, Nat.reduceAdd, Nat.reduceLT, Nat.reduceLeDiff, Int.reduceLT, Int.reduceLE, Int.reduceEq, Int.reduceNe, Int.reduceAdd, Int.reduceSub, Int.reduceMul, Int.reduceNeg, Int.reduceToNat, List.length_map, x1, fillA_get hil, hgetL, List.set_set, hil, e1, aR_len, l1, aRow_len, hmn, tp])) | refine call_f (of_good (by omega) (by omega)) rfl ?_ | refine callQ_f (of_good (by omega) (by omega)) rfl ?_ | refine call_f (mul_w (by assumption) (by assumption) (by omega) (by omega)) rfl ?_ | refine callQ_f (mul_w (by assumption) (by assumption) (by omega) (by omega)) rfl ?_ | refine call_f (canon_w (by assumption) (by omega)) rfl ?_ | refine callQ_f (canon_w (by assumption) (by omega)) rfl ?_ | refine And.intro (by omega) ?_ | refine And.intro (And.intro (by omega) (by omega)) ?_)
        have z0 : fr ((0 : Int) : Rat) = fr (opF op (fun k => m.gA op t' k * m.mv k i) 0) := rfl
        refine W_loop [12, 13, 51, 52, 53, 54, 55, 56, 57, 58, 59, 60, 61, 62, 63, 64, 65, 66, 67, 68, 69, 70, 71, 72, 73, 74, 75] (fun x : Nat => [(51, .f (I x))]) (fun x : Nat => [some ⟨68, 3, [.f (hidV fs ms ss)]⟩, ob 49 1 ((aR m op (t' + 1)).map frs), some ⟨55, 3, ((fillL st.length i (fun i => fr (m.gA op (t' + 1) i)) frN).map .f).set i (.f (fr (opF op (fun k => m.gA op t' k * m.mv k i) x)))⟩]) (fun x : Nat => x ≤ st.length) (fun x : Nat => st.length - x) (0) (Nat.zero_le _) (by refine weak_of ?_ ?_ <;> simp only [go_sem, Nat.reduceAdd, Nat.reduceLT, Nat.reduceEqDiff] <;> first | rfl | exact ⟨rfl, rfl⟩ | exact Or.inl rfl | exact ⟨Or.inl rfl, Or.inl rfl⟩ | trivial | assumption | (symm; assumption)) ?_
        rintro q hq
        simp only [go_sem, Nat.reduceAdd, Nat.reduceLT, Nat.reduceEqDiff]
        repeat (first | (with_reducible first | refine W_seq fun K hK => ?_ | refine J_block ?_ | refine J_skip ?_ | refine J_exit ?_ | refine J_ret ?_ | refine J_region ?_  | refine J_drawn mixed (by kernel_rfl) ?_ | refine aApp_sl ?_ | refine aApp_old ?_ | refine J_c ?_ | refine Jc_true ?_ | refine Jc_false ?_ | exact Frz.f _ | (refine Kont.go (by assumption) ?_) | (simp (config := { maxSteps := 3000000 }) (disch := omega) only [go_sem, Nat.reduceEqDiff, ↓reduceIte, Nat.reduceAdd, Nat.reduceLT, Nat.reduceLeDiff, Int.reduceLT, Int.reduceLE, Int.reduceEq, Int.reduceNe, Int.reduceAdd, Int.reduceSub, Int.reduceMul, Int.reduceNeg, Int.reduceToNat])) | refine call_f (of_good (by omega) (by omega)) rfl ?_ | refine callQ_f (of_good (by omega) (by omega)) rfl ?_ | refine call_f (mul_w (by assumption) (by assumption) (by omega) (by omega)) rfl ?_ | refine callQ_f (mul_w (by assumption) (by assumption) (by omega) (by omega)) rfl ?_ | refine call_f (canon_w (by assumption) (by omega)) rfl ?_ | refine callQ_f (canon_w (by assumption) (by omega)) rfl ?_ | refine And.intro (by omega) ?_ | refine And.intro (And.intro (by omega) (by omega)) ?_)
        refine Jc_if (fun hql => ?_) (fun hql => ?_) <;> try simp only [decide_eq_true_eq, decide_eq_false_iff_not, Bool.not_eq_true', Bool.not_eq_false', Bool.not_true, Bool.not_false, Int.ofNat_lt, Int.ofNat_le, Int.natCast_inj, Classical.not_not] at hql
        · obtain ⟨xs3, g3, n3, d3, y3, x3, f3⟩ := h.m3 hql hil
          have fa := h.fA h1 hj (t := t') (by omega) hql
          rw [← hm_] at fa
          have ca := IsFr.c fa
          have sa := szH_le (k := k) (t := t') hk (by omega)
          have l2 := aRow_get (h := m) (op := op) (t := t') (i := q) (by omega)
          have fo := opF_fz hj (f := fun k => m.gA op t' k * m.mv k i) (n := q) (s := szH k t' + k) fun q' hq' => by
            have := (h.fA h1 hj (t := t') (by omega) (i := q') (by omega)).mul (h.hM h1 (i := q') (j := i) (by omega) hil)
            rw [← hm_] at this; exact this
          have so := Nat.mul_le_mul (show q ≤ 4 by omega) (show szH k t' + k + 1 ≤ 400001001 by omega)
          have fm := h.hM h1 hql hil
          rw [← hm_] at fm
          have emv : at2 mv q i = m.mv q i := by rw [hm_]; rfl
          rw [emv] at f3
          repeat (first | (with_reducible first | refine W_seq fun K hK => ?_ | refine J_block ?_ | refine J_skip ?_ | refine J_exit ?_ | refine J_ret ?_ | refine J_region ?_  | refine J_drawn mixed (by kernel_rfl) ?_ | refine aApp_sl ?_ | refine aApp_old ?_ | refine J_c ?_ | refine Jc_true ?_ | refine Jc_false ?_ | exact Frz.f _ | (refine Kont.go (by assumption) ?_) | (simp (config := { maxSteps := 3000000 }) (disch := omega) only [go_sem, Nat.reduceEqDiff, ↓reduceIte, Nat.reduceAdd, Nat.reduceLT, Nat.reduceLeDiff, Int.reduceLT, Int.reduceLE, Int.reduceEq, Int.reduceNe, Int.reduceAdd, Int.reduceSub, Int.reduceMul, Int.reduceNeg, Int.reduceToNat, List.length_map, hgetL, List.set_set, hil, l2, aRow_len, hmn, x3, y3])) | refine call_f (of_good (by omega) (by omega)) rfl ?_ | refine callQ_f (of_good (by omega) (by omega)) rfl ?_ | refine call_f (mul_w (by assumption) (by assumption) (by omega) (by omega)) rfl ?_ | refine callQ_f (mul_w (by assumption) (by assumption) (by omega) (by omega)) rfl ?_ | refine call_f (canon_w (by assumption) (by omega)) rfl ?_ | refine callQ_f (canon_w (by assumption) (by omega)) rfl ?_ | refine And.intro (by omega) ?_ | refine And.intro (And.intro (by omega) (by omega)) ?_)
          refine callQ_f (hj.good fo (fa.mul fm) (by omega) (by omega)) rfl ?_
          repeat (first | (with_reducible first | refine W_seq fun K hK => ?_ | refine J_block ?_ | refine J_skip ?_ | refine J_exit ?_ | refine J_ret ?_ | refine J_region ?_  | refine J_drawn mixed (by kernel_rfl) ?_ | refine aApp_sl ?_ | refine aApp_old ?_ | refine J_c ?_ | refine Jc_true ?_ | refine Jc_false ?_ | exact Frz.f _ | (refine Kont.go (by assumption) ?_) | (simp (config := { maxSteps := 3000000 }) (disch := omega) only [go_sem, Nat.reduceEqDiff, ↓reduceIte, Nat.reduceAdd, Nat.reduceLT, Nat.reduceLeDiff, Int.reduceLT, Int.reduceLE, Int.reduceEq, Int.reduceNe, Int.reduceAdd, Int.reduceSub, Int.reduceMul, Int.reduceNeg, Int.reduceToNat, List.length_map, hgetL, List.set_set, hil, l2, aRow_len, hmn, opF_succ, fill_len])) | refine call_f (of_good (by omega) (by omega)) rfl ?_ | refine callQ_f (of_good (by omega) (by omega)) rfl ?_ | refine call_f (mul_w (by assumption) (by assumption) (by omega) (by omega)) rfl ?_ | refine callQ_f (mul_w (by assumption) (by assumption) (by omega) (by omega)) rfl ?_ | refine call_f (canon_w (by assumption) (by omega)) rfl ?_ | refine callQ_f (canon_w (by assumption) (by omega)) rfl ?_ | refine And.intro (by omega) ?_ | refine And.intro (And.intro (by omega) (by omega)) ?_)
          refine ⟨q + 1, by omega, by omega, weak_of ?_ ?_⟩ <;> (try simp only [go_sem, Nat.reduceAdd, Nat.reduceLT, Nat.reduceEqDiff]) <;> (try first | done | omega | rfl | exact ⟨rfl, rfl⟩ | trivial)
        · have he : q = st.length := by omega
          subst he
          have e2 : opF op (fun k => m.gA op t' k * m.mv k i) st.length * at2 sh i seen[t' + 1].toNat = m.gA op (t' + 1) i := by
            show _ = opF op _ m.n * m.sh i (m.s (t' + 1))
            rw [hmn, hm_]; show _ = _ * at2 sh i (seen.getD (t' + 1) 0).toNat; rw [lget_lt seen 0 hlt]
          have fo := opF_fz hj (f := fun k => m.gA op t' k * m.mv k i) (n := st.length) (s := szH k t' + k) fun q' hq' => by
            have := (h.fA h1 hj (t := t') (by omega) (i := q') (by omega)).mul (h.hM h1 (i := q') (j := i) (by omega) hil)
            rw [← hm_] at this; exact this
          have co := IsFr.c fo
          have sa := szH_le (k := k) (t := t') hk (by omega)
          have so := Nat.mul_le_mul (show st.length ≤ 4 by omega) (show szH k t' + k + 1 ≤ 400001001 by omega)
          repeat (first | (with_reducible first | refine W_seq fun K hK => ?_ | refine J_block ?_ | refine J_skip ?_ | refine J_exit ?_ | refine J_ret ?_ | refine J_region ?_  | refine J_drawn mixed (by kernel_rfl) ?_ | refine aApp_sl ?_ | refine aApp_old ?_ | refine J_c ?_ | refine Jc_true ?_ | refine Jc_false ?_ | exact Frz.f _ | (refine Kont.go (by assumption) ?_) | (simp (config := { maxSteps := 3000000 }) (disch := omega) only [go_sem, Nat.reduceEqDiff, ↓reduceIte, Nat.reduceAdd, Nat.reduceLT, Nat.reduceLeDiff, Int.reduceLT, Int.reduceLE, Int.reduceEq, Int.reduceNe, Int.reduceAdd, Int.reduceSub, Int.reduceMul, Int.reduceNeg, Int.reduceToNat, List.length_map, hgetL, List.set_set, hil, fill_len, y2, x2, e2])) | refine call_f (of_good (by omega) (by omega)) rfl ?_ | refine callQ_f (of_good (by omega) (by omega)) rfl ?_ | refine call_f (mul_w (by assumption) (by assumption) (by omega) (by omega)) rfl ?_ | refine callQ_f (mul_w (by assumption) (by assumption) (by omega) (by omega)) rfl ?_ | refine call_f (canon_w (by assumption) (by omega)) rfl ?_ | refine callQ_f (canon_w (by assumption) (by omega)) rfl ?_ | refine And.intro (by omega) ?_ | refine And.intro (And.intro (by omega) (by omega)) ?_)
          refine ⟨i + 1, by omega, by omega, weak_of ?_ ?_⟩ <;> (try simp only [go_sem, Nat.reduceAdd, Nat.reduceLT, Nat.reduceEqDiff]) <;> (try first | done | omega | rfl | exact ⟨rfl, rfl⟩ | trivial)
    · have he : i = st.length := by omega
      subst he
      have hfa : fillL st.length st.length (fun i => fr (m.gA op t i)) frN = (aRow m op t).map fr := by rw [fill_all, aRow, List.map_map, hmn]; rfl
      have hfl : st.length = ((aRow m op t).map fr).length := by rw [List.length_map, aRow_len, hmn]
      repeat (first | (with_reducible first | refine W_seq fun K hK => ?_ | refine J_block ?_ | refine J_skip ?_ | refine J_exit ?_ | refine J_ret ?_ | ((fail_if_success refine J_region (id := 19) ?_); refine J_region ?_)  | refine J_drawn mixed (by kernel_rfl) ?_ | refine aApp_sl ?_ | refine aApp_old ?_ | refine J_c ?_ | refine Jc_true ?_ | refine Jc_false ?_ | exact Frz.f _ | (refine Kont.go (by assumption) ?_) | (simp (config := { maxSteps := 3000000 }) (disch := omega) only [go_sem, Nat.reduceEqDiff, ↓reduceIte, Nat.reduceAdd, Nat.reduceLT, Nat.reduceLeDiff, Int.reduceLT, Int.reduceLE, Int.reduceEq, Int.reduceNe, Int.reduceAdd, Int.reduceSub, Int.reduceMul, Int.reduceNeg, Int.reduceToNat, hfa])) | refine call_f (of_good (by omega) (by omega)) rfl ?_ | refine callQ_f (of_good (by omega) (by omega)) rfl ?_ | refine call_f (mul_w (by assumption) (by assumption) (by omega) (by omega)) rfl ?_ | refine callQ_f (mul_w (by assumption) (by assumption) (by omega) (by omega)) rfl ?_ | refine call_f (canon_w (by assumption) (by omega)) rfl ?_ | refine callQ_f (canon_w (by assumption) (by omega)) rfl ?_ | refine And.intro (by omega) ?_ | refine And.intro (And.intro (by omega) (by omega)) ?_)
      refine J_freezeO (j := 10) rfl hfl rfl ?_
      repeat (first | (with_reducible first | refine W_seq fun K hK => ?_ | refine J_block ?_ | refine J_skip ?_ | refine J_exit ?_ | refine J_ret ?_ | refine J_region ?_  | refine J_drawn mixed (by kernel_rfl) ?_ | refine aApp_sl ?_ | refine aApp_old ?_ | refine J_c ?_ | refine Jc_true ?_ | refine Jc_false ?_ | exact Frz.f _ | (refine Kont.go (by assumption) ?_) | (simp (config := { maxSteps := 3000000 }) (disch := omega) only [go_sem, Nat.reduceEqDiff, ↓reduceIte, Nat.reduceAdd, Nat.reduceLT, Nat.reduceLeDiff, Int.reduceLT, Int.reduceLE, Int.reduceEq, Int.reduceNe, Int.reduceAdd, Int.reduceSub, Int.reduceMul, Int.reduceNeg, Int.reduceToNat, aR_next, List.length_map, aR_len])) | refine call_f (of_good (by omega) (by omega)) rfl ?_ | refine callQ_f (of_good (by omega) (by omega)) rfl ?_ | refine call_f (mul_w (by assumption) (by assumption) (by omega) (by omega)) rfl ?_ | refine callQ_f (mul_w (by assumption) (by assumption) (by omega) (by omega)) rfl ?_ | refine call_f (canon_w (by assumption) (by omega)) rfl ?_ | refine callQ_f (canon_w (by assumption) (by omega)) rfl ?_ | refine And.intro (by omega) ?_ | refine And.intro (And.intro (by omega) (by omega)) ?_)
      refine ⟨t + 1, by omega, by omega, weak_of ?_ ?_⟩ <;> (try simp only [go_sem, Nat.reduceAdd, Nat.reduceLT, Nat.reduceEqDiff]) <;> (try first | done | omega | rfl | exact ⟨rfl, rfl⟩ | trivial)
  · have he : t = seen.length := by omega
    subst he
    repeat (first | (with_reducible first | refine W_seq fun K hK => ?_ | refine J_block ?_ | refine J_skip ?_ | refine J_exit ?_ | refine J_ret ?_ | refine J_region ?_  | refine J_drawn mixed (by kernel_rfl) ?_ | refine aApp_sl ?_ | refine aApp_old ?_ | refine J_c ?_ | refine Jc_true ?_ | refine Jc_false ?_ | exact Frz.f _ | (refine Kont.go (by assumption) ?_) | (simp (config := { maxSteps := 3000000 }) (disch := omega) only [go_sem, Nat.reduceEqDiff, ↓reduceIte, Nat.reduceAdd, Nat.reduceLT, Nat.reduceLeDiff, Int.reduceLT, Int.reduceLE, Int.reduceEq, Int.reduceNe, Int.reduceAdd, Int.reduceSub, Int.reduceMul, Int.reduceNeg, Int.reduceToNat])) | refine call_f (of_good (by omega) (by omega)) rfl ?_ | refine callQ_f (of_good (by omega) (by omega)) rfl ?_ | refine call_f (mul_w (by assumption) (by assumption) (by omega) (by omega)) rfl ?_ | refine callQ_f (mul_w (by assumption) (by assumption) (by omega) (by omega)) rfl ?_ | refine call_f (canon_w (by assumption) (by omega)) rfl ?_ | refine callQ_f (canon_w (by assumption) (by omega)) rfl ?_ | refine And.intro (by omega) ?_ | refine And.intro (And.intro (by omega) (by omega)) ?_)
    exact Frz.sl rfl
end Go.Proofs.YtabmgfchkcmcmaaDoor
