/- Fractions as they are told, lists and rows of such: what each call of the program and of the document gives. Conditions: parts within 2^35 bytes. -/
import Derived.Test.YtcgagiimlkjcpaaDoorZFrA
import Derived.Laws.StructEq
import Derived.Laws.Strings
set_option linter.unusedVariables false
set_option linter.unusedSimpArgs false
namespace Go.Proofs.YtcgagiimlkjcpaaDoor
open Go Go.RowKit
def IsFr (x : FV) (q : Rat) (k : Nat) : Prop := ∃ g n d, x = frR g n d ∧ Is g n d q k
theorem IsFr.c {q : Rat} {k : Nat} (h : Fz q k) : IsFr (fr q) q k := ⟨_, _, _, fr_frR q, Is.c h⟩
theorem IsFr.up {x : FV} {q : Rat} {j k : Nat} (h : IsFr x q j) (hk : j ≤ k) : IsFr x q k := by obtain ⟨g, n, d, e, h⟩ := h; exact ⟨g, n, d, e, h.up hk⟩
theorem IsFr.fz {x : FV} {q : Rat} {k : Nat} (h : IsFr x q k) (hk : 1 ≤ k) : Fz q k := by obtain ⟨g, n, d, e, h⟩ := h; exact h.fz hk
theorem IsFr.int {n : Int} (h0 : -9223372036854775808 ≤ n) (h1 : n ≤ 9223372036854775807) : IsFr (fr (n : Rat)) (n : Rat) 8 := .c (Fz.int (by omega))
section
variable {x y : FV} {a b : Rat} {j k : Nat}
theorem add_w (ha : IsFr x a j) (hb : IsFr y b k) (hj : j ≤ 34359738368) (hk : k ≤ 34359738368) : Good Tryd.prog 44 [x, y] (fr (a + b)) := by
  obtain ⟨g, n, d, rfl, ha⟩ := ha
  obtain ⟨g', n', d', rfl, hb⟩ := hb
  exact good_calls (by kernel_rfl) rfl rfl fun w => fadd_g (ha.up (k := 34359738368) hj) (hb.up (k := 34359738368) hk) (by omega) (by omega) rfl w
theorem sub_w (ha : IsFr x a j) (hb : IsFr y b k) (hj : j ≤ 34359738368) (hk : k ≤ 34359738368) : Good Tryd.prog 30 [x, y] (fr (a - b)) := by
  obtain ⟨g, n, d, rfl, ha⟩ := ha
  obtain ⟨g', n', d', rfl, hb⟩ := hb
  exact good_calls (by kernel_rfl) rfl rfl fun w => fsub_g (ha.up (k := 34359738368) hj) (hb.up (k := 34359738368) hk) (by omega) (by omega) rfl w
theorem mul_w (ha : IsFr x a j) (hb : IsFr y b k) (hj : j ≤ 34359738368) (hk : k ≤ 34359738368) : Good Tryd.prog 45 [x, y] (fr (a * b)) := by
  obtain ⟨g, n, d, rfl, ha⟩ := ha
  obtain ⟨g', n', d', rfl, hb⟩ := hb
  exact good_calls (by kernel_rfl) rfl rfl fun w => fmul_g (ha.up (k := 34359738368) hj) (hb.up (k := 34359738368) hk) (by omega) (by omega) rfl w
theorem cmp_w (ha : IsFr x a j) (hb : IsFr y b k) (hj : j ≤ 34359738368) (hk : k ≤ 34359738368) : Good Tryd.prog 43 [x, y] (I (cmpR a b)) := by
  obtain ⟨g, n, d, rfl, ha⟩ := ha
  obtain ⟨g', n', d', rfl, hb⟩ := hb
  exact good_calls (by kernel_rfl) rfl rfl fun w => fcmp_g (ha.up (k := 34359738368) hj) (hb.up (k := 34359738368) hk) (by omega) (by omega) rfl w
abbrev frN : FV := frR false ⟨#[]⟩ ⟨#[]⟩
theorem div_w (ha : IsFr x a j) (hb : IsFr y b k) (hj : j ≤ 34359738368) (hk : k ≤ 34359738368) (h0 : b ≠ 0) : Good Tryd.prog 52 [x, y] (.tup [fr (a / b), I 0]) := by
  obtain ⟨g, n, d, rfl, ha⟩ := ha
  obtain ⟨g', n', d', rfl, hb⟩ := hb
  exact good_calls (by kernel_rfl) rfl rfl fun w => fdiv_g (ha.up (k := 34359738368) hj) (hb.up (k := 34359738368) hk) (by omega) (by omega) h0 rfl w
theorem radd_w (ha : IsFr x a j) (hb : IsFr y b k) (hj : j ≤ 34359738368) (hk : k ≤ 34359738368) : Good Tryd.prog 23 [x, y] (fr (a + b)) := by
  obtain ⟨g, n, d, rfl, ha⟩ := ha
  obtain ⟨g', n', d', rfl, hb⟩ := hb
  exact raddf_good (ha.up (k := 34359738368) hj) (hb.up (k := 34359738368) hk) (by omega) (by omega) (by omega) (by omega)
theorem rmul_w (ha : IsFr x a j) (hb : IsFr y b k) (hj : j ≤ 34359738368) (hk : k ≤ 34359738368) : Good Tryd.prog 15 [x, y] (fr (a * b)) := by
  obtain ⟨g, n, d, rfl, ha⟩ := ha
  obtain ⟨g', n', d', rfl, hb⟩ := hb
  exact rmulf_good (ha.up (k := 34359738368) hj) (hb.up (k := 34359738368) hk) (by omega) (by omega) (by omega) (by omega)
theorem rdiv_w (ha : IsFr x a j) (hb : IsFr y b k) (hj : j ≤ 34359738368) (hk : k ≤ 34359738368) (h0 : b ≠ 0) : Good Tryd.prog 37 [x, y] (.tup [fr (a / b), I 0]) := by
  obtain ⟨g, n, d, rfl, ha⟩ := ha
  obtain ⟨g', n', d', rfl, hb⟩ := hb
  exact rdivf_good (ha.up (k := 34359738368) hj) (hb.up (k := 34359738368) hk) (by omega) (by omega) (by omega) (by omega) h0
theorem rcmp_w (ha : IsFr x a j) (hb : IsFr y b k) (hj : j ≤ 34359738368) (hk : k ≤ 34359738368) : Good Tryd.prog 14 [x, y] (I (cmpR a b)) := by
  obtain ⟨g, n, d, rfl, ha⟩ := ha
  obtain ⟨g', n', d', rfl, hb⟩ := hb
  exact rcmpf_good (ha.up (k := 34359738368) hj) (hb.up (k := 34359738368) hk) (by omega) (by omega) (by omega) (by omega)
end
structure Frs (k : Nat) (xs : List FV) (l : List Rat) : Prop where
  len : xs.length = l.length
  get : ∀ (i : Nat) q, l[i]? = some q → ∃ x, xs[i]? = some x ∧ IsFr x q k
structure FrM (k : Nat) (ys : List FV) (m : List (List Rat)) : Prop where
  len : ys.length = m.length
  get : ∀ (i : Nat) r, m[i]? = some r → ∃ xs, ys[i]? = some (.fz 3 xs) ∧ Frs k xs r
def Row (k : Nat) (l : List Rat) : Prop := ∀ q ∈ l, Fz q k
theorem Row.get {k : Nat} {l : List Rat} (h : Row k l) {i : Nat} (hi : i < l.length) : Fz l[i] k := h _ (List.getElem_mem hi)
theorem Frs.c {k : Nat} {l : List Rat} (h : Row k l) : Frs k (l.map fr) l := ⟨by simp, fun i q hq => ⟨fr q, by rw [List.getElem?_map, hq]; rfl, .c (h q (List.mem_of_getElem? hq))⟩⟩
theorem FrM.c {k : Nat} {m : List (List Rat)} (h : ∀ r ∈ m, Row k r) : FrM k (m.map frs) m := ⟨by simp, fun i r hr => ⟨r.map fr, by rw [List.getElem?_map, hr]; rfl, .c (h r (List.mem_of_getElem? hr))⟩⟩
theorem Frs.at {k : Nat} {xs : List FV} {l : List Rat} (h : Frs k xs l) {i : Nat} (hi : i < l.length) : ∃ x, xs[i]? = some x ∧ IsFr x l[i] k := h.get i _ (List.getElem?_eq_getElem hi)
theorem Frs.at3 {k : Nat} {xs : List FV} {l : List Rat} (h : Frs k xs l) {i : Nat} (hi : i < l.length) : ∃ g n d, xs[i]? = some (frR g n d) ∧ IsFr (frR g n d) l[i] k := by
  obtain ⟨x, hx, g, n, d, rfl, hk⟩ := h.at hi
  exact ⟨g, n, d, hx, g, n, d, rfl, hk⟩
theorem FrM.at {k : Nat} {ys : List FV} {m : List (List Rat)} (h : FrM k ys m) {i : Nat} (hi : i < m.length) : ∃ xs, ys[i]? = some (.fz 3 xs) ∧ Frs k xs m[i] := h.get i _ (List.getElem?_eq_getElem hi)
theorem Frs.up {j k : Nat} {xs : List FV} {l : List Rat} (h : Frs j xs l) (hk : j ≤ k) : Frs k xs l := ⟨h.len, fun i q hq => by obtain ⟨x, h1, h2⟩ := h.get i q hq; exact ⟨x, h1, h2.up hk⟩⟩
theorem Frs.row {k : Nat} {xs : List FV} {l : List Rat} (h : Frs k xs l) (hk : 1 ≤ k) : Row k l := fun q hq => by
  obtain ⟨i, hi⟩ := List.getElem?_of_mem hq
  obtain ⟨x, _, h2⟩ := h.get i q hi
  exact h2.fz hk
theorem cmpR_lt {a b : Rat} : (cmpR a b < 0) ↔ a < b := by
  unfold cmpR
  by_cases h : a = b
  · rw [if_pos h]; subst h; exact ⟨fun h => by omega, fun h => absurd h Rat.lt_irrefl⟩
  · rw [if_neg h]
    by_cases h2 : a < b
    · rw [if_pos h2]; exact ⟨fun _ => h2, fun _ => by omega⟩
    · rw [if_neg h2]; exact ⟨fun h => by omega, fun h => absurd h h2⟩
theorem cmpR_gt {a b : Rat} : (0 < cmpR a b) ↔ b < a := by
  have h1 := cmpR_swap a b
  have h2 := cmpR_lt (a := b) (b := a)
  constructor
  · intro h; exact h2.1 (by omega)
  · intro h; have := h2.2 h; omega
def sumTo (l : List Rat) : Nat → Rat
  | 0 => 0
  | i + 1 => sumTo l i + l.getD i 0
def sumR (l : List Rat) : Rat := sumTo l l.length
theorem sumTo_fz {k : Nat} {l : List Rat} (h : Row k l) : ∀ i, i ≤ l.length → Fz (sumTo l i) (8 + i * (k + 1)) := by
  intro i
  induction i with
  | zero => intro _; exact (Fz.int (n := 0) (by decide)).up (by omega)
  | succ i ih =>
    intro hi
    have e1 : l.getD i 0 = l[i] := lget_lt l 0 (by omega)
    show Fz (sumTo l i + l.getD i 0) _
    rw [e1]
    exact ((ih (by omega)).add (h.get (by omega))).up (by rw [Nat.add_mul]; omega)
theorem sumTo_next {l : List Rat} {i : Nat} (h : i < l.length) : sumTo l i + l[i] = sumTo l (i + 1) := by
  show _ = sumTo l i + l.getD i 0
  rw [lget_lt l 0 h]
end Go.Proofs.YtcgagiimlkjcpaaDoor
set_option linter.unusedVariables false
set_option linter.unusedSimpArgs false
namespace Go.Proofs.YtcgagiimlkjcpaaDoor
open Go Go.RowKit
def eqR (g : Bool) (n d : ByteArray) (g' : Bool) (n' d' : ByteArray) : Bool := (g == g') && (decide (n = n') && decide (d = d'))
theorem toList_eq_iff {a b : ByteArray} : (a.toList == b.toList) = decide (a = b) := by
  have : (a.toList = b.toList) ↔ a = b := by
    rw [ByteArray.toList_eq, ByteArray.toList_eq]
    exact ⟨fun h => by cases a; cases b; simp_all [Array.toList_inj], fun h => by rw [h]⟩
  by_cases h : a = b
  · subst h; simp
  · rw [decide_eq_false h]; simpa using fun h' => h (this.1 h')
set_option maxRecDepth 100000 in
theorem run_eq3 (w : World) (g g' : Bool) (n d n' d' : ByteArray) : (Op.equalIn 10000 39 (.agg #[.bool g, .string n, .string d]) (.agg #[.bool g', .string n', .string d'])).run Tryd.prog w = .ok (eqR g n d g' n' d') w := by
  rw [run_equalIn_agg w 9999 _ _ _ (by kernel_rfl) (by kernel_rfl)]
  unfold Program.fieldsOf
  rw [Tryd.underlying39]
  have p0 : ∀ (a b c : Value), (part 4 #[a, b, c] 0).run Tryd.prog w = .ok a w := fun a b c => by kernel_rfl
  have p1 : ∀ (a b c : Value), (part 37 #[a, b, c] 1).run Tryd.prog w = .ok b w := fun a b c => by kernel_rfl
  have p2 : ∀ (a b c : Value), (part 37 #[a, b, c] 2).run Tryd.prog w = .ok c w := fun a b c => by kernel_rfl
  have q0 := run_equalIn_bool' w 9998 4 g g' Tryd.underlying4
  have q1 := run_equalIn_string w 9998 37 n n' Tryd.underlying37
  have q2 := run_equalIn_string w 9998 37 d d' Tryd.underlying37
  rw [toList_eq_iff] at q1 q2
  rw [show (9998 + 1 : Nat) = 9999 from rfl] at q0 q1 q2
  have h1 : ("Neg" : String) ≠ "_" := by decide
  have h2 : ("Num" : String) ≠ "_" := by decide
  have h3 : ("Den" : String) ≠ "_" := by decide
  show (Op.eqFields 9999 _ _ [_, _, _]).run _ _ = _
  unfold eqR
  simp only [Op.eqFields, h1, h2, h3, ne_eq, not_false_eq_true, if_true, Sem.run_bind, p0, p1, p2, Result.andThen_ok, q0, q1, q2]
  cases hg : (g == g') with
  | false => simp
  | true =>
    cases hn : decide (n = n') with
    | false => simp [hn, p1, q1]
    | true =>
      cases hd : decide (d = d') with
      | false => simp [hn, hd, p1, q1, p2, q2]
      | true => simp [hn, hd, p1, q1, p2, q2]
theorem eqR_fr (a b : Rat) : eqR (cg a) (cn a) (cd a) (cg b) (cn b) (cd b) = decide (a = b) := by
  by_cases h : a = b
  · subst h; simp [eqR]
  · rw [decide_eq_false h]
    unfold eqR
    by_cases h1 : cg a = cg b
    · by_cases h2 : cn a = cn b
      · by_cases h3 : cd a = cd b
        · exact absurd (by rw [← rv_c a, ← rv_c b, h1, h2, h3]) h
        · simp [h3]
      · simp [h2]
    · have : (cg a == cg b) = false := by simpa using h1
      rw [this]; rfl
section
variable {k : AV → Prop} {X Y : Operand}
@[go_sem] theorem bin_eqR {g g' : Bool} {n d n' d' : ByteArray} : aBin Tryd.prog .eql 39 X Y (.f (frR g n d)) (.f (frR g' n' d')) k = k (.f (.v (.bool (eqR g n d g' n' d')))) :=
  bin_run (U := .agg #[.bool g, .string n, .string d]) (V := .agg #[.bool g', .string n', .string d']) rfl rfl (fun _ _ h => by cases h) (fun _ h => by cases h) fun w => by
    rw [Sem.run_bind, run_eqGuard_agg w .eql 39 X Y _ _ (by kernel_rfl), Result.andThen_ok, run_eql_struct, run_eq3]; rfl
@[go_sem] theorem bin_neR {g g' : Bool} {n d n' d' : ByteArray} : aBin Tryd.prog .neq 39 X Y (.f (frR g n d)) (.f (frR g' n' d')) k = k (.f (.v (.bool (!eqR g n d g' n' d')))) :=
  bin_run (U := .agg #[.bool g, .string n, .string d]) (V := .agg #[.bool g', .string n', .string d']) rfl rfl (fun _ _ h => by cases h) (fun _ h => by cases h) fun w => by
    rw [Sem.run_bind, run_eqGuard_agg w .neq 39 X Y _ _ (by kernel_rfl), Result.andThen_ok, run_neq_struct, run_eq3]; rfl
@[go_sem] theorem bin_eqf {a b : Rat} : aBin Tryd.prog .eql 39 X Y (.f (fr a)) (.f (fr b)) k = k (.f (.v (.bool (decide (a = b))))) := by
  rw [fr_frR, fr_frR, bin_eqR, eqR_fr]
@[go_sem] theorem bin_nef {a b : Rat} : aBin Tryd.prog .neq 39 X Y (.f (fr a)) (.f (fr b)) k = k (.f (.v (.bool (!decide (a = b))))) := by
  rw [fr_frR, fr_frR, bin_neR, eqR_fr]
end
end Go.Proofs.YtcgagiimlkjcpaaDoor
set_option linter.unusedVariables false
set_option linter.unusedSimpArgs false
namespace Go.Proofs.YtcgagiimlkjcpaaDoor
open Go Go.RowKit
abbrev oF (x : FV) : Option AO := some ⟨39, 3, [.f x]⟩
theorem sum_bound {k i n : Nat} (hi : i ≤ n) (hn : n ≤ 1000) (hk : k ≤ 10000000) : 8 + i * (k + 1) ≤ 11000000000 := by
  have := Nat.mul_le_mul (show i ≤ 1000 by omega) (show k + 1 ≤ 10000001 by omega); omega
set_option maxRecDepth 100000 in
theorem sum_w {xs : List FV} {l : List Rat} {k : Nat} (hl : Frs k xs l) (h1 : 1 ≤ k) (hn : l.length ≤ 1000) (hk : k ≤ 10000000) : Good Tryd.prog 68 [.fz 3 xs] (fr (sumR l)) := by
  have hr := hl.row h1
  refine good_of Tryd.func68 rfl (by kernel_rfl) fun X hO hrd => ?_; rw [Tryd.ntmps68, Tryd.results68]; simp only [ast0, List.map_cons, List.map_nil, List.length_cons, List.length_nil, Nat.reduceAdd, Nat.reduceSub, List.replicate_succ, List.replicate_zero, List.cons_append, List.nil_append]
  repeat (first | (with_reducible first | refine W_seq fun K hK => ?_ | refine J_block ?_ | refine J_skip ?_ | refine J_exit ?_ | refine J_ret ?_ | refine J_region ?_  | refine J_drawn mixed (by kernel_rfl) ?_ | refine aApp_sl ?_ | refine aApp_old ?_ | refine J_c ?_ | refine Jc_true ?_ | refine Jc_false ?_ | exact Frz.f _ | (refine Kont.go (by assumption) ?_) | (simp (config := { maxSteps := 3000000 }) (disch := omega) only [go_sem, Nat.reduceEqDiff, ↓reduceIte, Nat.reduceAdd, Nat.reduceLT, Nat.reduceLeDiff, Int.reduceLT, Int.reduceLE, Int.reduceEq, Int.reduceNe, Int.reduceAdd, Int.reduceSub, Int.reduceMul, Int.reduceNeg, Int.reduceToNat, hl.len])) | refine call_f (of_good (by omega) (by omega)) rfl ?_ | refine callQ_f (of_good (by omega) (by omega)) rfl ?_ | refine call_f (add_w (by assumption) (by assumption) (by omega) (by omega)) rfl ?_ | refine callQ_f (add_w (by assumption) (by assumption) (by omega) (by omega)) rfl ?_ | refine And.intro (by omega) ?_ | refine And.intro (And.intro (by omega) (by omega)) ?_)
  refine W_loop [5, 9, 10, 11, 12, 13, 14, 15, 16] (fun x : Nat => [(9, .f (I x))]) (fun x : Nat => [oF frN, oF (fr (sumTo l x))]) (fun x : Nat => x ≤ l.length) (fun x : Nat => l.length - x) (0) (Nat.zero_le _) (by refine weak_of ?_ ?_ <;> simp (disch := omega) only [go_sem, Nat.reduceAdd, Nat.reduceLT, Nat.reduceEqDiff] <;> first | rfl | exact ⟨rfl, rfl⟩ | exact Or.inl rfl | exact ⟨Or.inl rfl, Or.inl rfl⟩ | trivial | assumption | omega | (symm; assumption) | ((repeat' apply And.intro) <;> first | rfl | omega | trivial | exact .inr ⟨rfl, rfl⟩ | exact .inr rfl | (right; symm; assumption) | (symm; assumption) | assumption)) ?_
  rintro i hi
  simp only [go_sem, Nat.reduceAdd, Nat.reduceLT, Nat.reduceEqDiff]
  repeat (first | (with_reducible first | refine W_seq fun K hK => ?_ | refine J_block ?_ | refine J_skip ?_ | refine J_exit ?_ | refine J_ret ?_ | refine J_region ?_  | refine J_drawn mixed (by kernel_rfl) ?_ | refine aApp_sl ?_ | refine aApp_old ?_ | refine J_c ?_ | refine Jc_true ?_ | refine Jc_false ?_ | exact Frz.f _ | (refine Kont.go (by assumption) ?_) | (simp (config := { maxSteps := 3000000 }) (disch := omega) only [go_sem, Nat.reduceEqDiff, ↓reduceIte, Nat.reduceAdd, Nat.reduceLT, Nat.reduceLeDiff, Int.reduceLT, Int.reduceLE, Int.reduceEq, Int.reduceNe, Int.reduceAdd, Int.reduceSub, Int.reduceMul, Int.reduceNeg, Int.reduceToNat])) | refine call_f (of_good (by omega) (by omega)) rfl ?_ | refine callQ_f (of_good (by omega) (by omega)) rfl ?_ | refine call_f (add_w (by assumption) (by assumption) (by omega) (by omega)) rfl ?_ | refine callQ_f (add_w (by assumption) (by assumption) (by omega) (by omega)) rfl ?_ | refine And.intro (by omega) ?_ | refine And.intro (And.intro (by omega) (by omega)) ?_)
  refine Jc_if (fun hlt => ?_) (fun hlt => ?_) <;> try simp only [decide_eq_true_eq, decide_eq_false_iff_not, Bool.not_eq_true', Bool.not_eq_false', Bool.not_true, Bool.not_false, Int.ofNat_lt, Int.ofNat_le, Int.natCast_inj, Classical.not_not] at hlt
  · have hsz := sum_bound hi hn hk
    have hd := IsFr.c (sumTo_fz hr i hi)
    obtain ⟨g, n, d, hx, his⟩ := hl.at3 hlt
    repeat (first | (with_reducible first | refine W_seq fun K hK => ?_ | refine J_block ?_ | refine J_skip ?_ | refine J_exit ?_ | refine J_ret ?_ | refine J_region ?_  | refine J_drawn mixed (by kernel_rfl) ?_ | refine aApp_sl ?_ | refine aApp_old ?_ | refine J_c ?_ | refine Jc_true ?_ | refine Jc_false ?_ | exact Frz.f _ | (refine Kont.go (by assumption) ?_) | (simp (config := { maxSteps := 3000000 }) (disch := omega) only [go_sem, Nat.reduceEqDiff, ↓reduceIte, Nat.reduceAdd, Nat.reduceLT, Nat.reduceLeDiff, Int.reduceLT, Int.reduceLE, Int.reduceEq, Int.reduceNe, Int.reduceAdd, Int.reduceSub, Int.reduceMul, Int.reduceNeg, Int.reduceToNat, hx, hlt, sumTo_next hlt])) | refine call_f (of_good (by omega) (by omega)) rfl ?_ | refine callQ_f (of_good (by omega) (by omega)) rfl ?_ | refine call_f (add_w (by assumption) (by assumption) (by omega) (by omega)) rfl ?_ | refine callQ_f (add_w (by assumption) (by assumption) (by omega) (by omega)) rfl ?_ | refine And.intro (by omega) ?_ | refine And.intro (And.intro (by omega) (by omega)) ?_)
    refine ⟨i + 1, by omega, by omega, weak_of ?_ ?_⟩ <;> (try simp (disch := omega) only [go_sem, Nat.reduceAdd, Nat.reduceLT, Nat.reduceEqDiff]) <;> (try first | done | omega | rfl | exact ⟨rfl, rfl⟩ | trivial)
  · have he : i = l.length := by omega
    subst he
    repeat (first | (with_reducible first | refine W_seq fun K hK => ?_ | refine J_block ?_ | refine J_skip ?_ | refine J_exit ?_ | refine J_ret ?_ | refine J_region ?_  | refine J_drawn mixed (by kernel_rfl) ?_ | refine aApp_sl ?_ | refine aApp_old ?_ | refine J_c ?_ | refine Jc_true ?_ | refine Jc_false ?_ | exact Frz.f _ | (refine Kont.go (by assumption) ?_) | (simp (config := { maxSteps := 3000000 }) (disch := omega) only [go_sem, Nat.reduceEqDiff, ↓reduceIte, Nat.reduceAdd, Nat.reduceLT, Nat.reduceLeDiff, Int.reduceLT, Int.reduceLE, Int.reduceEq, Int.reduceNe, Int.reduceAdd, Int.reduceSub, Int.reduceMul, Int.reduceNeg, Int.reduceToNat])) | refine call_f (of_good (by omega) (by omega)) rfl ?_ | refine callQ_f (of_good (by omega) (by omega)) rfl ?_ | refine call_f (add_w (by assumption) (by assumption) (by omega) (by omega)) rfl ?_ | refine callQ_f (add_w (by assumption) (by assumption) (by omega) (by omega)) rfl ?_ | refine And.intro (by omega) ?_ | refine And.intro (And.intro (by omega) (by omega)) ?_)
    exact Frz.f _
set_option maxRecDepth 100000 in
theorem rsum_w {xs : List FV} {l : List Rat} {k : Nat} (hl : Frs k xs l) (h1 : 1 ≤ k) (hn : l.length ≤ 1000) (hk : k ≤ 10000000) : Good Tryd.prog 11 [.fz 3 xs] (fr (sumR l)) := by
  have hr := hl.row h1
  refine good_of Tryd.func11 rfl (by kernel_rfl) fun X hO hrd => ?_; rw [Tryd.ntmps11, Tryd.results11]; simp only [ast0, List.map_cons, List.map_nil, List.length_cons, List.length_nil, Nat.reduceAdd, Nat.reduceSub, List.replicate_succ, List.replicate_zero, List.cons_append, List.nil_append]
  repeat (first | (with_reducible first | refine W_seq fun K hK => ?_ | refine J_block ?_ | refine J_skip ?_ | refine J_exit ?_ | refine J_ret ?_ | refine J_region ?_  | refine J_drawn mixed (by kernel_rfl) ?_ | refine aApp_sl ?_ | refine aApp_old ?_ | refine J_c ?_ | refine Jc_true ?_ | refine Jc_false ?_ | exact Frz.f _ | (refine Kont.go (by assumption) ?_) | (simp (config := { maxSteps := 3000000 }) (disch := omega) only [go_sem, Nat.reduceEqDiff, ↓reduceIte, Nat.reduceAdd, Nat.reduceLT, Nat.reduceLeDiff, Int.reduceLT, Int.reduceLE, Int.reduceEq, Int.reduceNe, Int.reduceAdd, Int.reduceSub, Int.reduceMul, Int.reduceNeg, Int.reduceToNat])) | refine call_f (rof_frac (by omega) (by omega)) rfl ?_ | refine callQ_f (rof_frac (by omega) (by omega)) rfl ?_ | refine call_f (radd_w (by assumption) (by assumption) (by omega) (by omega)) rfl ?_ | refine callQ_f (radd_w (by assumption) (by assumption) (by omega) (by omega)) rfl ?_ | refine And.intro (by omega) ?_ | refine And.intro (And.intro (by omega) (by omega)) ?_)
  refine W_loop [4, 6, 7, 8, 9, 10, 11, 12, 13, 14, 15, 16, 17] (fun x : Nat => [(4, .f (I x))]) (fun x : Nat => [oF frN, oF (fr (sumTo l x))]) (fun x : Nat => x ≤ l.length) (fun x : Nat => l.length - x) (0) (Nat.zero_le _) (by refine weak_of ?_ ?_ <;> simp (disch := omega) only [go_sem, Nat.reduceAdd, Nat.reduceLT, Nat.reduceEqDiff] <;> first | rfl | exact ⟨rfl, rfl⟩ | exact Or.inl rfl | exact ⟨Or.inl rfl, Or.inl rfl⟩ | trivial | assumption | omega | (symm; assumption) | ((repeat' apply And.intro) <;> first | rfl | omega | trivial | exact .inr ⟨rfl, rfl⟩ | exact .inr rfl | (right; symm; assumption) | (symm; assumption) | assumption)) ?_
  rintro i hi
  simp only [go_sem, Nat.reduceAdd, Nat.reduceLT, Nat.reduceEqDiff]
  repeat (first | (with_reducible first | refine W_seq fun K hK => ?_ | refine J_block ?_ | refine J_skip ?_ | refine J_exit ?_ | refine J_ret ?_ | refine J_region ?_  | refine J_drawn mixed (by kernel_rfl) ?_ | refine aApp_sl ?_ | refine aApp_old ?_ | refine J_c ?_ | refine Jc_true ?_ | refine Jc_false ?_ | exact Frz.f _ | (refine Kont.go (by assumption) ?_) | (simp (config := { maxSteps := 3000000 }) (disch := omega) only [go_sem, Nat.reduceEqDiff, ↓reduceIte, Nat.reduceAdd, Nat.reduceLT, Nat.reduceLeDiff, Int.reduceLT, Int.reduceLE, Int.reduceEq, Int.reduceNe, Int.reduceAdd, Int.reduceSub, Int.reduceMul, Int.reduceNeg, Int.reduceToNat, hl.len])) | refine call_f (rof_frac (by omega) (by omega)) rfl ?_ | refine callQ_f (rof_frac (by omega) (by omega)) rfl ?_ | refine call_f (radd_w (by assumption) (by assumption) (by omega) (by omega)) rfl ?_ | refine callQ_f (radd_w (by assumption) (by assumption) (by omega) (by omega)) rfl ?_ | refine And.intro (by omega) ?_ | refine And.intro (And.intro (by omega) (by omega)) ?_)
  refine Jc_if (fun hlt => ?_) (fun hlt => ?_) <;> try simp only [decide_eq_true_eq, decide_eq_false_iff_not, Bool.not_eq_true', Bool.not_eq_false', Bool.not_true, Bool.not_false, Int.ofNat_lt, Int.ofNat_le, Int.natCast_inj, Classical.not_not] at hlt
  · have hsz := sum_bound hi hn hk
    have hd := IsFr.c (sumTo_fz hr i hi)
    obtain ⟨g, n, d, hx, his⟩ := hl.at3 hlt
    repeat (first | (with_reducible first | refine W_seq fun K hK => ?_ | refine J_block ?_ | refine J_skip ?_ | refine J_exit ?_ | refine J_ret ?_ | refine J_region ?_  | refine J_drawn mixed (by kernel_rfl) ?_ | refine aApp_sl ?_ | refine aApp_old ?_ | refine J_c ?_ | refine Jc_true ?_ | refine Jc_false ?_ | exact Frz.f _ | (refine Kont.go (by assumption) ?_) | (simp (config := { maxSteps := 3000000 }) (disch := omega) only [go_sem, Nat.reduceEqDiff, ↓reduceIte, Nat.reduceAdd, Nat.reduceLT, Nat.reduceLeDiff, Int.reduceLT, Int.reduceLE, Int.reduceEq, Int.reduceNe, Int.reduceAdd, Int.reduceSub, Int.reduceMul, Int.reduceNeg, Int.reduceToNat, hx, hlt, sumTo_next hlt])) | refine call_f (rof_frac (by omega) (by omega)) rfl ?_ | refine callQ_f (rof_frac (by omega) (by omega)) rfl ?_ | refine call_f (radd_w (by assumption) (by assumption) (by omega) (by omega)) rfl ?_ | refine callQ_f (radd_w (by assumption) (by assumption) (by omega) (by omega)) rfl ?_ | refine And.intro (by omega) ?_ | refine And.intro (And.intro (by omega) (by omega)) ?_)
    refine ⟨i + 1, by omega, by omega, weak_of ?_ ?_⟩ <;> (try simp (disch := omega) only [go_sem, Nat.reduceAdd, Nat.reduceLT, Nat.reduceEqDiff]) <;> (try first | done | omega | rfl | exact ⟨rfl, rfl⟩ | trivial)
  · have he : i = l.length := by omega
    subst he
    repeat (first | (with_reducible first | refine W_seq fun K hK => ?_ | refine J_block ?_ | refine J_skip ?_ | refine J_exit ?_ | refine J_ret ?_ | refine J_region ?_  | refine J_drawn mixed (by kernel_rfl) ?_ | refine aApp_sl ?_ | refine aApp_old ?_ | refine J_c ?_ | refine Jc_true ?_ | refine Jc_false ?_ | exact Frz.f _ | (refine Kont.go (by assumption) ?_) | (simp (config := { maxSteps := 3000000 }) (disch := omega) only [go_sem, Nat.reduceEqDiff, ↓reduceIte, Nat.reduceAdd, Nat.reduceLT, Nat.reduceLeDiff, Int.reduceLT, Int.reduceLE, Int.reduceEq, Int.reduceNe, Int.reduceAdd, Int.reduceSub, Int.reduceMul, Int.reduceNeg, Int.reduceToNat])) | refine call_f (rof_frac (by omega) (by omega)) rfl ?_ | refine callQ_f (rof_frac (by omega) (by omega)) rfl ?_ | refine call_f (radd_w (by assumption) (by assumption) (by omega) (by omega)) rfl ?_ | refine callQ_f (radd_w (by assumption) (by assumption) (by omega) (by omega)) rfl ?_ | refine And.intro (by omega) ?_ | refine And.intro (And.intro (by omega) (by omega)) ?_)
    exact Frz.f _
def chancesB (l : List Rat) : Bool := decide ((∀ q ∈ l, 0 ≤ q) ∧ sumR l = 1)
theorem chances_neg {l : List Rat} {i : Nat} (h : i < l.length) (hn : cmpR l[i] ((0 : Int) : Rat) < 0) : chancesB l = false :=
  decide_eq_false fun hh => Rat.not_lt.2 (hh.1 _ (List.getElem_mem h)) (by simpa using cmpR_lt.1 hn)
theorem chances_end {l : List Rat} (hp : ∀ j (h : j < l.length), j < l.length → ¬ cmpR l[j] ((0 : Int) : Rat) < 0) : chancesB l = decide (sumR l = ((1 : Int) : Rat)) := by
  unfold chancesB
  rw [decide_eq_decide]
  refine ⟨fun h => by rw [h.2]; rfl, fun h => ⟨fun q hq => ?_, by rw [h]; rfl⟩⟩
  obtain ⟨j, hj, rfl⟩ := List.getElem_of_mem hq
  exact Rat.not_lt.1 fun hh => hp j hj hj (cmpR_lt.2 (by simpa using hh))
theorem upto_next {p : Nat → Prop} {i : Nat} (h : ∀ j, j < i → p j) (hi : p i) : ∀ j, j < i + 1 → p j := fun j hj => by
  by_cases e : j = i
  · subst e; exact hi
  · exact h j (by omega)
theorem uptoL_next {α : Type} {l : List α} {p : α → Prop} {i : Nat} (h : ∀ j (hj : j < l.length), j < i → p l[j]) (hi : ∀ hj : i < l.length, p l[i]) : ∀ j (hj : j < l.length), j < i + 1 → p l[j] := fun j hj hji => by
  by_cases e : j = i
  · subst e; exact hi hj
  · exact h j hj (by omega)
set_option maxRecDepth 100000 in
theorem chances_w {xs : List FV} {l : List Rat} {k : Nat} (hl : Frs k xs l) (h1 : 1 ≤ k) (hn : l.length ≤ 1000) (hk : k ≤ 10000000) : Good Tryd.prog 58 [.fz 3 xs] (Bo (chancesB l)) := by
  have hr := hl.row h1
  have h0 : IsFr (fr ((0 : Int) : Rat)) ((0 : Int) : Rat) 8 := IsFr.int (by omega) (by omega)
  have h2 : IsFr (fr ((1 : Int) : Rat)) ((1 : Int) : Rat) 8 := IsFr.int (by omega) (by omega)
  have hsz := sum_bound (Nat.le_refl _) hn hk
  have hd : IsFr (fr (sumR l)) (sumR l) _ := IsFr.c (sumTo_fz hr _ (Nat.le_refl _))
  refine good_of Tryd.func58 rfl (by kernel_rfl) fun X hO hrd => ?_; rw [Tryd.ntmps58, Tryd.results58]; simp only [ast0, List.map_cons, List.map_nil, List.length_cons, List.length_nil, Nat.reduceAdd, Nat.reduceSub, List.replicate_succ, List.replicate_zero, List.cons_append, List.nil_append]
  repeat (first | (with_reducible first | refine W_seq fun K hK => ?_ | refine J_block ?_ | refine J_skip ?_ | refine J_exit ?_ | refine J_ret ?_ | refine J_region ?_  | refine J_drawn mixed (by kernel_rfl) ?_ | refine aApp_sl ?_ | refine aApp_old ?_ | refine J_c ?_ | refine Jc_true ?_ | refine Jc_false ?_ | exact Frz.f _ | (refine Kont.go (by assumption) ?_) | (simp (config := { maxSteps := 3000000 }) (disch := omega) only [go_sem, Nat.reduceEqDiff, ↓reduceIte, Nat.reduceAdd, Nat.reduceLT, Nat.reduceLeDiff, Int.reduceLT, Int.reduceLE, Int.reduceEq, Int.reduceNe, Int.reduceAdd, Int.reduceSub, Int.reduceMul, Int.reduceNeg, Int.reduceToNat, hl.len])) | refine call_f (of_good (by omega) (by omega)) rfl ?_ | refine callQ_f (of_good (by omega) (by omega)) rfl ?_ | refine call_f (cmp_w (by assumption) (by assumption) (by omega) (by omega)) rfl ?_ | refine callQ_f (cmp_w (by assumption) (by assumption) (by omega) (by omega)) rfl ?_ | refine And.intro (by omega) ?_ | refine And.intro (And.intro (by omega) (by omega)) ?_)
  refine W_loop [2, 4, 7, 8, 9, 10, 11, 12, 13, 14, 15] (fun x : Nat => [(7, .f (I x))]) (fun x : Nat => []) (fun x : Nat => x ≤ l.length ∧ ∀ j (h : j < l.length), j < x → ¬ cmpR l[j] ((0 : Int) : Rat) < 0) (fun x : Nat => l.length - x) (0) (⟨Nat.zero_le _, fun j _ h => by omega⟩) (by refine weak_of ?_ ?_ <;> simp (disch := omega) only [go_sem, Nat.reduceAdd, Nat.reduceLT, Nat.reduceEqDiff] <;> first | rfl | exact ⟨rfl, rfl⟩ | exact Or.inl rfl | exact ⟨Or.inl rfl, Or.inl rfl⟩ | trivial | assumption | omega | (symm; assumption) | ((repeat' apply And.intro) <;> first | rfl | omega | trivial | exact .inr ⟨rfl, rfl⟩ | exact .inr rfl | (right; symm; assumption) | (symm; assumption) | assumption)) ?_
  rintro i ⟨hi, hp⟩
  simp only [go_sem, Nat.reduceAdd, Nat.reduceLT, Nat.reduceEqDiff]
  repeat (first | (with_reducible first | refine W_seq fun K hK => ?_ | refine J_block ?_ | refine J_skip ?_ | refine J_exit ?_ | refine J_ret ?_ | refine J_region ?_  | refine J_drawn mixed (by kernel_rfl) ?_ | refine aApp_sl ?_ | refine aApp_old ?_ | refine J_c ?_ | refine Jc_true ?_ | refine Jc_false ?_ | exact Frz.f _ | (refine Kont.go (by assumption) ?_) | (simp (config := { maxSteps := 3000000 }) (disch := omega) only [go_sem, Nat.reduceEqDiff, ↓reduceIte, Nat.reduceAdd, Nat.reduceLT, Nat.reduceLeDiff, Int.reduceLT, Int.reduceLE, Int.reduceEq, Int.reduceNe, Int.reduceAdd, Int.reduceSub, Int.reduceMul, Int.reduceNeg, Int.reduceToNat])) | refine call_f (of_good (by omega) (by omega)) rfl ?_ | refine callQ_f (of_good (by omega) (by omega)) rfl ?_ | refine call_f (cmp_w (by assumption) (by assumption) (by omega) (by omega)) rfl ?_ | refine callQ_f (cmp_w (by assumption) (by assumption) (by omega) (by omega)) rfl ?_ | refine And.intro (by omega) ?_ | refine And.intro (And.intro (by omega) (by omega)) ?_)
  refine Jc_if (fun hlt => ?_) (fun hlt => ?_) <;> try simp only [decide_eq_true_eq, decide_eq_false_iff_not, Bool.not_eq_true', Bool.not_eq_false', Bool.not_true, Bool.not_false, Int.ofNat_lt, Int.ofNat_le, Int.natCast_inj, Classical.not_not] at hlt
  · obtain ⟨g, n, d, hx, his⟩ := hl.at3 hlt
    repeat (first | (with_reducible first | refine W_seq fun K hK => ?_ | refine J_block ?_ | refine J_skip ?_ | refine J_exit ?_ | refine J_ret ?_ | refine J_region ?_  | refine J_drawn mixed (by kernel_rfl) ?_ | refine aApp_sl ?_ | refine aApp_old ?_ | refine J_c ?_ | refine Jc_true ?_ | refine Jc_false ?_ | exact Frz.f _ | (refine Kont.go (by assumption) ?_) | (simp (config := { maxSteps := 3000000 }) (disch := omega) only [go_sem, Nat.reduceEqDiff, ↓reduceIte, Nat.reduceAdd, Nat.reduceLT, Nat.reduceLeDiff, Int.reduceLT, Int.reduceLE, Int.reduceEq, Int.reduceNe, Int.reduceAdd, Int.reduceSub, Int.reduceMul, Int.reduceNeg, Int.reduceToNat, hx, hlt])) | refine call_f (of_good (by omega) (by omega)) rfl ?_ | refine callQ_f (of_good (by omega) (by omega)) rfl ?_ | refine call_f (cmp_w (by assumption) (by assumption) (by omega) (by omega)) rfl ?_ | refine callQ_f (cmp_w (by assumption) (by assumption) (by omega) (by omega)) rfl ?_ | refine And.intro (by omega) ?_ | refine And.intro (And.intro (by omega) (by omega)) ?_)
    refine Jc_if (fun hneg => ?_) (fun hneg => ?_) <;> try simp only [decide_eq_true_eq, decide_eq_false_iff_not, Bool.not_eq_true', Bool.not_eq_false', Bool.not_true, Bool.not_false, Int.ofNat_lt, Int.ofNat_le, Int.natCast_inj, Classical.not_not] at hneg
    · repeat (first | (with_reducible first | refine W_seq fun K hK => ?_ | refine J_block ?_ | refine J_skip ?_ | refine J_exit ?_ | refine J_ret ?_ | refine J_region ?_  | refine J_drawn mixed (by kernel_rfl) ?_ | refine aApp_sl ?_ | refine aApp_old ?_ | refine J_c ?_ | refine Jc_true ?_ | refine Jc_false ?_ | exact Frz.f _ | (refine Kont.go (by assumption) ?_) | (simp (config := { maxSteps := 3000000 }) (disch := omega) only [go_sem, Nat.reduceEqDiff, ↓reduceIte, Nat.reduceAdd, Nat.reduceLT, Nat.reduceLeDiff, Int.reduceLT, Int.reduceLE, Int.reduceEq, Int.reduceNe, Int.reduceAdd, Int.reduceSub, Int.reduceMul, Int.reduceNeg, Int.reduceToNat])) | refine call_f (of_good (by omega) (by omega)) rfl ?_ | refine callQ_f (of_good (by omega) (by omega)) rfl ?_ | refine call_f (cmp_w (by assumption) (by assumption) (by omega) (by omega)) rfl ?_ | refine callQ_f (cmp_w (by assumption) (by assumption) (by omega) (by omega)) rfl ?_ | refine And.intro (by omega) ?_ | refine And.intro (And.intro (by omega) (by omega)) ?_)
      rw [chances_neg hlt hneg]
      exact Frz.f _
    · repeat (first | (with_reducible first | refine W_seq fun K hK => ?_ | refine J_block ?_ | refine J_skip ?_ | refine J_exit ?_ | refine J_ret ?_ | refine J_region ?_  | refine J_drawn mixed (by kernel_rfl) ?_ | refine aApp_sl ?_ | refine aApp_old ?_ | refine J_c ?_ | refine Jc_true ?_ | refine Jc_false ?_ | exact Frz.f _ | (refine Kont.go (by assumption) ?_) | (simp (config := { maxSteps := 3000000 }) (disch := omega) only [go_sem, Nat.reduceEqDiff, ↓reduceIte, Nat.reduceAdd, Nat.reduceLT, Nat.reduceLeDiff, Int.reduceLT, Int.reduceLE, Int.reduceEq, Int.reduceNe, Int.reduceAdd, Int.reduceSub, Int.reduceMul, Int.reduceNeg, Int.reduceToNat])) | refine call_f (of_good (by omega) (by omega)) rfl ?_ | refine callQ_f (of_good (by omega) (by omega)) rfl ?_ | refine call_f (cmp_w (by assumption) (by assumption) (by omega) (by omega)) rfl ?_ | refine callQ_f (cmp_w (by assumption) (by assumption) (by omega) (by omega)) rfl ?_ | refine And.intro (by omega) ?_ | refine And.intro (And.intro (by omega) (by omega)) ?_)
      refine ⟨i + 1, ⟨by omega, uptoL_next (p := fun q => ¬ cmpR q ((0 : Int) : Rat) < 0) hp fun _ => hneg⟩, by omega, weak_of ?_ ?_⟩ <;> (try simp (disch := omega) only [go_sem, Nat.reduceAdd, Nat.reduceLT, Nat.reduceEqDiff]) <;> (try first | done | omega | rfl | exact ⟨rfl, rfl⟩ | trivial)
  · have he : i = l.length := by omega
    subst he
    repeat (first | (with_reducible first | refine W_seq fun K hK => ?_ | refine J_block ?_ | refine J_skip ?_ | refine J_exit ?_ | refine J_ret ?_ | refine J_region ?_  | refine J_drawn mixed (by kernel_rfl) ?_ | refine aApp_sl ?_ | refine aApp_old ?_ | refine J_c ?_ | refine Jc_true ?_ | refine Jc_false ?_ | exact Frz.f _ | (refine Kont.go (by assumption) ?_) | (simp (config := { maxSteps := 3000000 }) (disch := omega) only [go_sem, Nat.reduceEqDiff, ↓reduceIte, Nat.reduceAdd, Nat.reduceLT, Nat.reduceLeDiff, Int.reduceLT, Int.reduceLE, Int.reduceEq, Int.reduceNe, Int.reduceAdd, Int.reduceSub, Int.reduceMul, Int.reduceNeg, Int.reduceToNat, cmpR_zero])) | refine call_f (of_good (by omega) (by omega)) rfl ?_ | refine callQ_f (of_good (by omega) (by omega)) rfl ?_ | refine call_f (cmp_w (by assumption) (by assumption) (by omega) (by omega)) rfl ?_ | refine callQ_f (cmp_w (by assumption) (by assumption) (by omega) (by omega)) rfl ?_ | refine And.intro (by omega) ?_ | refine And.intro (And.intro (by omega) (by omega)) ?_)
    refine call_f (sum_w hl h1 hn hk) rfl ?_
    repeat (first | (with_reducible first | refine W_seq fun K hK => ?_ | refine J_block ?_ | refine J_skip ?_ | refine J_exit ?_ | refine J_ret ?_ | refine J_region ?_  | refine J_drawn mixed (by kernel_rfl) ?_ | refine aApp_sl ?_ | refine aApp_old ?_ | refine J_c ?_ | refine Jc_true ?_ | refine Jc_false ?_ | exact Frz.f _ | (refine Kont.go (by assumption) ?_) | (simp (config := { maxSteps := 3000000 }) (disch := omega) only [go_sem, Nat.reduceEqDiff, ↓reduceIte, Nat.reduceAdd, Nat.reduceLT, Nat.reduceLeDiff, Int.reduceLT, Int.reduceLE, Int.reduceEq, Int.reduceNe, Int.reduceAdd, Int.reduceSub, Int.reduceMul, Int.reduceNeg, Int.reduceToNat, cmpR_zero])) | refine call_f (of_good (by omega) (by omega)) rfl ?_ | refine callQ_f (of_good (by omega) (by omega)) rfl ?_ | refine call_f (cmp_w (by assumption) (by assumption) (by omega) (by omega)) rfl ?_ | refine callQ_f (cmp_w (by assumption) (by assumption) (by omega) (by omega)) rfl ?_ | refine And.intro (by omega) ?_ | refine And.intro (And.intro (by omega) (by omega)) ?_)
    rw [chances_end hp]
    exact Frz.f _
end Go.Proofs.YtcgagiimlkjcpaaDoor
