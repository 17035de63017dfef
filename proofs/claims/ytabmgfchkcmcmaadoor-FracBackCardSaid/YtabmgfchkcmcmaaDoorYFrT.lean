/- A fraction's text, and its parse: walked. Conditions: numbers of 160 bytes. -/
import Derived.Test.YtabmgfchkcmcmaaDoorYFrX
import Derived.Lib.Bytealg
set_option linter.unusedVariables false
set_option linter.unusedSimpArgs false
namespace Go.Proofs.YtabmgfchkcmcmaaDoor
open Go Go.RowKit
def bsl (l : List UInt8) : ByteArray := ⟨l.toArray⟩
theorem bsl_size {l : List UInt8} : (bsl l).size = l.length := by simp [bsl, ByteArray.size]
theorem bsl_app {l k : List UInt8} : bsl l ++ bsl k = bsl (l ++ k) := by
  apply ByteArray.ext
  simp [bsl]
theorem bsl_list {l : List UInt8} : (bsl l).data.toList = l := by simp [bsl]
theorem bsl_cons {c : UInt8} {l : List UInt8} : (⟨#[c]⟩ : ByteArray) ++ bsl l = bsl (c :: l) := bsl_app (l := [c])
theorem ntext_good (a : ByteArray) (ha : a.size ≤ 137438953472) : Good Tryd.prog 160 [St a] (St (bsl (textOf (vn a)))) :=
  good_calls (by kernel_rfl) rfl rfl fun w => text_any a w ha
theorem nparse_good (l : List UInt8) (hm : l.length ≤ maxLen) : Good Tryd.prog 153 [St (bsl l)] (.tup [St (ns (parseVal l)), I (parseErr l : Nat)]) :=
  good_calls (by kernel_rfl) rfl rfl fun w => by
    have := parse_any (bsl l) w (by rw [bsl_size]; exact hm)
    rwa [bsl_list] at this
theorem fmake_good (g : Bool) (n d : ByteArray) (hn : n.size ≤ 137438953472) (hd : d.size ≤ 137438953472) : Good Tryd.prog 154 [Bo g, St n, St d] (fr (rv g n d)) :=
  good_calls (by kernel_rfl) rfl rfl fun w => fmake_any g n d w hn hd
def bodyT (q : Rat) : List UInt8 := if q.den = 1 then textOf q.num.natAbs else textOf q.num.natAbs ++ (47 :: textOf q.den)
def fracT (q : Rat) : List UInt8 := if cg q = true then 45 :: bodyT q else bodyT q
theorem pow_two {a : Nat} (h : 256 ^ 80 ≤ 10 ^ a) : 256 ^ 160 ≤ 10 ^ (a + a) := by
  rw [Nat.pow_add 10, show (160 : Nat) = 80 + 80 from rfl, Nat.pow_add]
  exact Nat.mul_le_mul h h
theorem text_len2 {n a : Nat} (h : n < 256 ^ 160) (ha : 256 ^ 80 ≤ 10 ^ a) (h4 : a + a ≤ 400) : (textOf n).length ≤ 400 := by
  unfold textOf
  split
  · decide
  · exact Nat.le_trans (dec_length n (a + a) (Nat.lt_of_lt_of_le h (pow_two ha))) h4
theorem text_len {n : Nat} (h : n < 256 ^ 160) : (textOf n).length ≤ 400 := text_len2 (a := 193) h (by decide) (by decide)
set_option maxRecDepth 100000 in
set_option maxHeartbeats 4000000 in
theorem ftext_w {x : FV} {q : Rat} (hq : IsFr x q 160) : Good Tryd.prog 75 [x] (St (bsl (fracT q))) := by
  have hz := hq.fz (by decide)
  have h1 := text_len hz.1
  have h2 := text_len hz.2
  have t1 := ntext_good (cn q) (by unfold cn; rw [ns_size]; have := nb_length_lt hz.1; omega)
  have t2 := ntext_good (cd q) (by unfold cd; rw [ns_size]; have := nb_length_lt hz.2; omega)
  have e1 : vn (cn q) = q.num.natAbs := vn_ns _
  have e2 : vn (cd q) = q.den := vn_ns _
  rw [e1] at t1
  rw [e2] at t2
  have hd : (cd q = (⟨#[1]⟩ : ByteArray)) = (q.den = 1) := propext ⟨fun h => by
    have h' := congrArg vn h
    rw [e2] at h'
    exact h', fun h => by unfold cd; rw [h]; exact ns_one⟩
  obtain ⟨g, n, d, rfl, _⟩ := id hq
  refine good_of Tryd.func75 rfl (by kernel_rfl) fun X hO => ?_; rw [Tryd.ntmps75, Tryd.results75]; simp only [ast0, List.map_cons, List.map_nil, List.length_cons, List.length_nil, Nat.reduceAdd, Nat.reduceSub, List.replicate_succ, List.replicate_zero, List.cons_append, List.nil_append]
  repeat (first | (with_reducible first | refine W_seq fun K hK => ?_ | refine J_block ?_ | refine J_skip ?_ | refine J_exit ?_ | refine J_ret ?_ | refine J_region ?_  | refine J_drawn mixed (by kernel_rfl) ?_ | refine aApp_sl ?_ | refine aApp_old ?_ | refine J_c ?_ | refine Jc_true ?_ | refine Jc_false ?_ | exact Frz.f _ | (refine Kont.go (by assumption) ?_) | (simp (config := { maxSteps := 3000000 }) (disch := omega) only [go_sem, Nat.reduceEqDiff, ↓reduceIte, Nat.reduceAdd, Nat.reduceLT, Nat.reduceLeDiff, Int.reduceLT, Int.reduceLE, Int.reduceEq, Int.reduceNe, Int.reduceAdd, Int.reduceSub, Int.reduceMul, Int.reduceNeg, Int.reduceToNat])) | refine call_f (canon_w (by assumption) (by omega)) rfl ?_ | refine callQ_f (canon_w (by assumption) (by omega)) rfl ?_ | refine And.intro (by omega) ?_ | refine And.intro (And.intro (by omega) (by omega)) ?_)
  refine call_f t1 rfl ?_
  have hcg : AV.f (FV.v (.bool (cg q))) = AV.f (Bo (cg q)) := rfl
  cases hg : cg q with
  | false =>
    by_cases hq1 : q.den = 1
    · have eb : fracT q = textOf q.num.natAbs := by unfold fracT bodyT; rw [hg, if_neg (by decide), if_pos hq1]
      have hd1 : (cd q = (⟨#[1]⟩ : ByteArray)) = True := by rw [hd]; exact eq_true hq1
      repeat (first | (with_reducible first | refine W_seq fun K hK => ?_ | refine J_block ?_ | refine J_skip ?_ | refine J_exit ?_ | refine J_ret ?_ | refine J_region ?_  | refine J_drawn mixed (by kernel_rfl) ?_ | refine aApp_sl ?_ | refine aApp_old ?_ | refine J_c ?_ | refine Jc_true ?_ | refine Jc_false ?_ | exact Frz.f _ | (refine Kont.go (by assumption) ?_) | (simp (config := { maxSteps := 3000000 }) (disch := omega) only [go_sem, Nat.reduceEqDiff, ↓reduceIte, Nat.reduceAdd, Nat.reduceLT, Nat.reduceLeDiff, Int.reduceLT, Int.reduceLE, Int.reduceEq, Int.reduceNe, Int.reduceAdd, Int.reduceSub, Int.reduceMul, Int.reduceNeg, Int.reduceToNat, hg, hd1, decide_true])) | refine call_f (canon_w (by assumption) (by omega)) rfl ?_ | refine callQ_f (canon_w (by assumption) (by omega)) rfl ?_ | refine And.intro (by omega) ?_ | refine And.intro (And.intro (by omega) (by omega)) ?_)
      rw [eb]
      exact Frz.f _
    · have eb : fracT q = textOf q.num.natAbs ++ (47 :: textOf q.den) := by unfold fracT bodyT; rw [hg, if_neg (by decide), if_neg hq1]
      have hd1 : (cd q = (⟨#[1]⟩ : ByteArray)) = False := by rw [hd]; exact eq_false hq1
      repeat (first | (with_reducible first | refine W_seq fun K hK => ?_ | refine J_block ?_ | refine J_skip ?_ | refine J_exit ?_ | refine J_ret ?_ | refine J_region ?_  | refine J_drawn mixed (by kernel_rfl) ?_ | refine aApp_sl ?_ | refine aApp_old ?_ | refine J_c ?_ | refine Jc_true ?_ | refine Jc_false ?_ | exact Frz.f _ | (refine Kont.go (by assumption) ?_) | (simp (config := { maxSteps := 3000000 }) (disch := omega) only [go_sem, Nat.reduceEqDiff, ↓reduceIte, Nat.reduceAdd, Nat.reduceLT, Nat.reduceLeDiff, Int.reduceLT, Int.reduceLE, Int.reduceEq, Int.reduceNe, Int.reduceAdd, Int.reduceSub, Int.reduceMul, Int.reduceNeg, Int.reduceToNat, hg, hd1, decide_false])) | refine call_f (canon_w (by assumption) (by omega)) rfl ?_ | refine callQ_f (canon_w (by assumption) (by omega)) rfl ?_ | refine And.intro (by omega) ?_ | refine And.intro (And.intro (by omega) (by omega)) ?_)
      refine call_f t2 rfl ?_
      repeat (first | (with_reducible first | refine W_seq fun K hK => ?_ | refine J_block ?_ | refine J_skip ?_ | refine J_exit ?_ | refine J_ret ?_ | refine J_region ?_  | refine J_drawn mixed (by kernel_rfl) ?_ | refine aApp_sl ?_ | refine aApp_old ?_ | refine J_c ?_ | refine Jc_true ?_ | refine Jc_false ?_ | exact Frz.f _ | (refine Kont.go (by assumption) ?_) | (simp (config := { maxSteps := 3000000 }) (disch := omega) only [go_sem, Nat.reduceEqDiff, ↓reduceIte, Nat.reduceAdd, Nat.reduceLT, Nat.reduceLeDiff, Int.reduceLT, Int.reduceLE, Int.reduceEq, Int.reduceNe, Int.reduceAdd, Int.reduceSub, Int.reduceMul, Int.reduceNeg, Int.reduceToNat, bsl_cons, bsl_app, bsl_size, List.length_cons])) | refine call_f (canon_w (by assumption) (by omega)) rfl ?_ | refine callQ_f (canon_w (by assumption) (by omega)) rfl ?_ | refine And.intro (by omega) ?_ | refine And.intro (And.intro (by omega) (by omega)) ?_)
      rw [eb]
      exact Frz.f _
  | true =>
    by_cases hq1 : q.den = 1
    · have eb : fracT q = 45 :: textOf q.num.natAbs := by unfold fracT bodyT; rw [hg, if_pos rfl, if_pos hq1]
      have hd1 : (cd q = (⟨#[1]⟩ : ByteArray)) = True := by rw [hd]; exact eq_true hq1
      repeat (first | (with_reducible first | refine W_seq fun K hK => ?_ | refine J_block ?_ | refine J_skip ?_ | refine J_exit ?_ | refine J_ret ?_ | refine J_region ?_  | refine J_drawn mixed (by kernel_rfl) ?_ | refine aApp_sl ?_ | refine aApp_old ?_ | refine J_c ?_ | refine Jc_true ?_ | refine Jc_false ?_ | exact Frz.f _ | (refine Kont.go (by assumption) ?_) | (simp (config := { maxSteps := 3000000 }) (disch := omega) only [go_sem, Nat.reduceEqDiff, ↓reduceIte, Nat.reduceAdd, Nat.reduceLT, Nat.reduceLeDiff, Int.reduceLT, Int.reduceLE, Int.reduceEq, Int.reduceNe, Int.reduceAdd, Int.reduceSub, Int.reduceMul, Int.reduceNeg, Int.reduceToNat, hg, hd1, decide_true, bsl_cons, bsl_size])) | refine call_f (canon_w (by assumption) (by omega)) rfl ?_ | refine callQ_f (canon_w (by assumption) (by omega)) rfl ?_ | refine And.intro (by omega) ?_ | refine And.intro (And.intro (by omega) (by omega)) ?_)
      rw [eb]
      exact Frz.f _
    · have eb : fracT q = 45 :: (textOf q.num.natAbs ++ (47 :: textOf q.den)) := by unfold fracT bodyT; rw [hg, if_pos rfl, if_neg hq1]
      have hd1 : (cd q = (⟨#[1]⟩ : ByteArray)) = False := by rw [hd]; exact eq_false hq1
      repeat (first | (with_reducible first | refine W_seq fun K hK => ?_ | refine J_block ?_ | refine J_skip ?_ | refine J_exit ?_ | refine J_ret ?_ | refine J_region ?_  | refine J_drawn mixed (by kernel_rfl) ?_ | refine aApp_sl ?_ | refine aApp_old ?_ | refine J_c ?_ | refine Jc_true ?_ | refine Jc_false ?_ | exact Frz.f _ | (refine Kont.go (by assumption) ?_) | (simp (config := { maxSteps := 3000000 }) (disch := omega) only [go_sem, Nat.reduceEqDiff, ↓reduceIte, Nat.reduceAdd, Nat.reduceLT, Nat.reduceLeDiff, Int.reduceLT, Int.reduceLE, Int.reduceEq, Int.reduceNe, Int.reduceAdd, Int.reduceSub, Int.reduceMul, Int.reduceNeg, Int.reduceToNat, hg, hd1, decide_false, bsl_cons, bsl_size])) | refine call_f (canon_w (by assumption) (by omega)) rfl ?_ | refine callQ_f (canon_w (by assumption) (by omega)) rfl ?_ | refine And.intro (by omega) ?_ | refine And.intro (And.intro (by omega) (by omega)) ?_)
      refine call_f t2 rfl ?_
      repeat (first | (with_reducible first | refine W_seq fun K hK => ?_ | refine J_block ?_ | refine J_skip ?_ | refine J_exit ?_ | refine J_ret ?_ | refine J_region ?_  | refine J_drawn mixed (by kernel_rfl) ?_ | refine aApp_sl ?_ | refine aApp_old ?_ | refine J_c ?_ | refine Jc_true ?_ | refine Jc_false ?_ | exact Frz.f _ | (refine Kont.go (by assumption) ?_) | (simp (config := { maxSteps := 3000000 }) (disch := omega) only [go_sem, Nat.reduceEqDiff, ↓reduceIte, Nat.reduceAdd, Nat.reduceLT, Nat.reduceLeDiff, Int.reduceLT, Int.reduceLE, Int.reduceEq, Int.reduceNe, Int.reduceAdd, Int.reduceSub, Int.reduceMul, Int.reduceNeg, Int.reduceToNat, bsl_cons, bsl_app, bsl_size, List.length_cons, List.cons_append])) | refine call_f (canon_w (by assumption) (by omega)) rfl ?_ | refine callQ_f (canon_w (by assumption) (by omega)) rfl ?_ | refine And.intro (by omega) ?_ | refine And.intro (And.intro (by omega) (by omega)) ?_)
      rw [eb]
      exact Frz.f _
theorem ib_none {l : List UInt8} {c : UInt8} (h : c ∉ l) : Lib.indexByte l c = -1 := by
  induction l with
  | nil => rfl
  | cons b l ih =>
    show (if b == c then 0 else if Lib.indexByte l c == -1 then -1 else Lib.indexByte l c + 1) = -1
    rw [if_neg (fun e => h (by rw [eq_of_beq e]; simp)), ih (fun hh => h (by simp [hh]))]
    rfl
theorem ib_at {l k : List UInt8} {c : UInt8} (h : c ∉ l) : Lib.indexByte (l ++ c :: k) c = l.length := by
  induction l with
  | nil =>
    show (if c == c then 0 else _) = _
    rw [if_pos (beq_self_eq_true c)]; rfl
  | cons b l ih =>
    show (if b == c then 0 else if Lib.indexByte (l ++ c :: k) c == -1 then -1 else Lib.indexByte (l ++ c :: k) c + 1) = _
    rw [if_neg (fun e => h (by rw [eq_of_beq e]; simp)), ih (fun hh => h (by simp [hh])), if_neg (by simp; try omega)]
    simp
set_option maxHeartbeats 1000000 in
set_option maxRecDepth 100000 in
theorem indexByte_any (s : ByteArray) (c : Int) (w : World) :
    Calls Tryd.prog 237 #[.string s, .int .u8 c] w fun e w' => e = .returned (.int .i64 (Lib.indexByte s.data.toList c.toNat.toUInt8)) ∧ w' = w := by
  go_enter Tryd.func237, Tryd.ntmps237
  go_wp2
  rw [run_callFunc_extern Tryd.func257 (by kernel_rfl) (by kernel_rfl) (by kernel_rfl) (e := Extern.BytealgIndexByte.indexByte) (by kernel_rfl), Lib.run_indexByteString]
  simp only [Result.andThen]
  rw [Oper.upon_value]
  go_wp2
  go_ret
  exact ⟨rfl, rfl⟩
theorem indexByte_good (l : List UInt8) (c : UInt8) : Good Tryd.prog 237 [St (bsl l), .v (.int .u8 c.toNat)] (I (Lib.indexByte l c)) :=
  good_calls (by kernel_rfl) rfl rfl fun w => by
    refine (indexByte_any (bsl l) c.toNat w).mono fun e w' ⟨h1, h2⟩ => ?_
    subst h2
    refine ⟨?_, Below.refl _ _⟩
    rw [h1, bsl_list]
    simp
theorem idx_str {T : TI} {s : ByteArray} {kd : IntKind} {n : Int} {k : AV → Prop} : aIndex T (.f (.v (.string s))) (.f (.v (.int kd n))) k = (T.str = true ∧ (0 ≤ n ∧ n < s.size) ∧ k (.f (.v (.int .u8 (s.data.toList.getD n.toNat 0).toNat)))) := rfl
attribute [go_sem] idx_str
theorem bsl_extract {l : List UInt8} {a b : Nat} : (bsl l).extract a b = bsl ((l.drop a).take (b - a)) := by
  apply ByteArray.ext
  simp [bsl, ByteArray.data_extract]
theorem bsl_inj {l k : List UInt8} : (bsl l = bsl k) = (l = k) := propext ⟨fun h => by
  have := congrArg (fun b : ByteArray => b.data.toList) h
  simpa [bsl_list] using this, fun h => by rw [h]⟩
set_option maxRecDepth 100000 in
set_option maxHeartbeats 4000000 in
theorem index_w (l : List UInt8) (c : UInt8) (hl : l.length ≤ 100000) : Good Tryd.prog 215 [St (bsl l), St (bsl [c])] (I (Lib.indexByte l c)) := by
  have hi := indexByte_good l c
  have c1 : ((1 : Nat) : Int) = 1 := rfl
  have z1 : (bsl [c]).size = 1 := rfl
  have z2 : ((bsl [c]).data.toList.getD 0 0).toNat = c.toNat := rfl
  by_cases hs : [c] = l
  · have e : Lib.indexByte l c = 0 := by rw [← hs]; show (if c == c then 0 else _) = _; rw [if_pos (beq_self_eq_true c)]
    have hs1 : ([c] = l) = True := eq_true hs
    rw [e]
    refine good_of Tryd.func215 rfl (by kernel_rfl) fun X hO => ?_; rw [Tryd.ntmps215, Tryd.results215]; simp only [ast0, List.map_cons, List.map_nil, List.length_cons, List.length_nil, Nat.reduceAdd, Nat.reduceSub, List.replicate_succ, List.replicate_zero, List.cons_append, List.nil_append]
    repeat (first | (with_reducible first | refine W_seq fun K hK => ?_ | refine J_block ?_ | refine J_skip ?_ | refine J_exit ?_ | refine J_ret ?_ | refine J_region ?_  | refine J_drawn mixed (by kernel_rfl) ?_ | refine aApp_sl ?_ | refine aApp_old ?_ | refine J_c ?_ | refine Jc_true ?_ | refine Jc_false ?_ | exact Frz.f _ | (refine Kont.go (by assumption) ?_) | (simp (config := { maxSteps := 3000000 }) (disch := omega) only [go_sem, Nat.reduceEqDiff, ↓reduceIte, Nat.reduceAdd, Nat.reduceLT, Nat.reduceLeDiff, Int.reduceLT, Int.reduceLE, Int.reduceEq, Int.reduceNe, Int.reduceAdd, Int.reduceSub, Int.reduceMul, Int.reduceNeg, Int.reduceToNat, bsl_size, List.length_cons, List.length_nil, bsl_inj, hs1, decide_true])) | refine And.intro (by omega) ?_ | refine And.intro (And.intro (by omega) (by omega)) ?_)
  · have hs1 : ([c] = l) = False := eq_false hs
    refine good_of Tryd.func215 rfl (by kernel_rfl) fun X hO => ?_; rw [Tryd.ntmps215, Tryd.results215]; simp only [ast0, List.map_cons, List.map_nil, List.length_cons, List.length_nil, Nat.reduceAdd, Nat.reduceSub, List.replicate_succ, List.replicate_zero, List.cons_append, List.nil_append]
    repeat (first | (with_reducible first | refine W_seq fun K hK => ?_ | refine J_block ?_ | refine J_skip ?_ | refine J_exit ?_ | refine J_ret ?_ | refine J_region ?_  | refine J_drawn mixed (by kernel_rfl) ?_ | refine aApp_sl ?_ | refine aApp_old ?_ | refine J_c ?_ | refine Jc_true ?_ | refine Jc_false ?_ | exact Frz.f _ | (refine Kont.go (by assumption) ?_) | (simp (config := { maxSteps := 3000000 }) (disch := omega) only [go_sem, Nat.reduceEqDiff, ↓reduceIte, Nat.reduceAdd, Nat.reduceLT, Nat.reduceLeDiff, Int.reduceLT, Int.reduceLE, Int.reduceEq, Int.reduceNe, Int.reduceAdd, Int.reduceSub, Int.reduceMul, Int.reduceNeg, Int.reduceToNat, bsl_size, List.length_cons, List.length_nil, bsl_inj, hs1, decide_false, z1, z2, c1, Nat.reduceMul, Nat.le_refl, true_and, and_true, and_self])) | refine And.intro (by omega) ?_ | refine And.intro (And.intro (by omega) (by omega)) ?_)
    refine call_f hi rfl ?_
    repeat (first | (with_reducible first | refine W_seq fun K hK => ?_ | refine J_block ?_ | refine J_skip ?_ | refine J_exit ?_ | refine J_ret ?_ | refine J_region ?_  | refine J_drawn mixed (by kernel_rfl) ?_ | refine aApp_sl ?_ | refine aApp_old ?_ | refine J_c ?_ | refine Jc_true ?_ | refine Jc_false ?_ | exact Frz.f _ | (refine Kont.go (by assumption) ?_) | (simp (config := { maxSteps := 3000000 }) (disch := omega) only [go_sem, Nat.reduceEqDiff, ↓reduceIte, Nat.reduceAdd, Nat.reduceLT, Nat.reduceLeDiff, Int.reduceLT, Int.reduceLE, Int.reduceEq, Int.reduceNe, Int.reduceAdd, Int.reduceSub, Int.reduceMul, Int.reduceNeg, Int.reduceToNat])) | refine And.intro (by omega) ?_ | refine And.intro (And.intro (by omega) (by omega)) ?_)
set_option maxRecDepth 100000 in
set_option maxHeartbeats 4000000 in
theorem hasP_w (l : List UInt8) (c : UInt8) (hl : l.length ≤ 100000) : Good Tryd.prog 214 [St (bsl l), St (bsl [c])] (Bo (decide (l.head? = some c))) := by
  have c1 : ((1 : Nat) : Int) = 1 := rfl
  cases l with
  | nil =>
    have e : decide (([] : List UInt8).head? = some c) = false := by simp
    rw [e]
    refine good_of Tryd.func214 rfl (by kernel_rfl) fun X hO => ?_; rw [Tryd.ntmps214, Tryd.results214]; simp only [ast0, List.map_cons, List.map_nil, List.length_cons, List.length_nil, Nat.reduceAdd, Nat.reduceSub, List.replicate_succ, List.replicate_zero, List.cons_append, List.nil_append]
    repeat (first | (with_reducible first | refine W_seq fun K hK => ?_ | refine J_block ?_ | refine J_skip ?_ | refine J_exit ?_ | refine J_ret ?_ | refine J_region ?_  | refine J_drawn mixed (by kernel_rfl) ?_ | refine aApp_sl ?_ | refine aApp_old ?_ | refine J_c ?_ | refine Jc_true ?_ | refine Jc_false ?_ | exact Frz.f _ | (refine Kont.go (by assumption) ?_) | (simp (config := { maxSteps := 3000000 }) (disch := omega) only [go_sem, Nat.reduceEqDiff, ↓reduceIte, Nat.reduceAdd, Nat.reduceLT, Nat.reduceLeDiff, Int.reduceLT, Int.reduceLE, Int.reduceEq, Int.reduceNe, Int.reduceAdd, Int.reduceSub, Int.reduceMul, Int.reduceNeg, Int.reduceToNat, bsl_size, List.length_cons, List.length_nil, c1])) | refine And.intro (by omega) ?_ | refine And.intro (And.intro (by omega) (by omega)) ?_)
    done
  | cons b l =>
    rw [List.length_cons] at hl
    have e : decide ((b :: l).head? = some c) = decide (b = c) := by simp
    rw [e]
    have x1 : (bsl (b :: l)).extract 0 1 = bsl [b] := by rw [bsl_extract]; rfl
    have x2 : ([b] = [c]) = (b = c) := by simp
    have z1 : (bsl (b :: l)).size = l.length + 1 := by rw [bsl_size, List.length_cons]
    have z2 : (bsl [c]).size = 1 := rfl
    refine good_of Tryd.func214 rfl (by kernel_rfl) fun X hO => ?_; rw [Tryd.ntmps214, Tryd.results214]; simp only [ast0, List.map_cons, List.map_nil, List.length_cons, List.length_nil, Nat.reduceAdd, Nat.reduceSub, List.replicate_succ, List.replicate_zero, List.cons_append, List.nil_append]
    have hle : (1 ≤ ((l.length + 1 : Nat) : Int)) = True := eq_true (by omega)
    repeat (first | (with_reducible first | refine W_seq fun K hK => ?_ | refine J_block ?_ | refine J_skip ?_ | refine J_exit ?_ | refine J_ret ?_ | refine J_region ?_  | refine J_drawn mixed (by kernel_rfl) ?_ | refine aApp_sl ?_ | refine aApp_old ?_ | refine J_c ?_ | refine Jc_true ?_ | refine Jc_false ?_ | exact Frz.f _ | (refine Kont.go (by assumption) ?_) | (simp (config := { maxSteps := 3000000 }) (disch := omega) only [go_sem, Nat.reduceEqDiff, ↓reduceIte, Nat.reduceAdd, Nat.reduceLT, Nat.reduceLeDiff, Int.reduceLT, Int.reduceLE, Int.reduceEq, Int.reduceNe, Int.reduceAdd, Int.reduceSub, Int.reduceMul, Int.reduceNeg, Int.reduceToNat, z1, z2, c1, hle, x1, bsl_inj, x2, decide_true])) | refine And.intro (by omega) ?_ | refine And.intro (And.intro (by omega) (by omega)) ?_)
section
set_option maxRecDepth 100000
set_option maxHeartbeats 4000000
theorem cutP1_yes (l : List UInt8) (c : UInt8) (hl : l.length + 1 ≤ 100000) : Good Tryd.prog 189 [St (bsl (c :: l)), St (bsl [c])] (.tup [St (bsl l), Bo true]) := by
  have c1 : ((1 : Nat) : Int) = 1 := rfl
  have z1 : (bsl (c :: l)).size = l.length + 1 := by rw [bsl_size, List.length_cons]
  have z2 : (bsl [c]).size = 1 := rfl
  have hp := hasP_w (c :: l) c (by simpa using hl)
  have e : decide ((c :: l).head? = some c) = true := by simp
  rw [e] at hp
  have x1 : (bsl (c :: l)).extract 1 (l.length + 1) = bsl l := by rw [bsl_extract]; congr 1; simp
  refine good_of Tryd.func189 rfl (by kernel_rfl) fun X hO => ?_; rw [Tryd.ntmps189, Tryd.results189]; simp only [ast0, List.map_cons, List.map_nil, List.length_cons, List.length_nil, Nat.reduceAdd, Nat.reduceSub, List.replicate_succ, List.replicate_zero, List.cons_append, List.nil_append]
  repeat (first | (with_reducible first | refine W_seq fun K hK => ?_ | refine J_block ?_ | refine J_skip ?_ | refine J_exit ?_ | refine J_ret ?_ | refine J_region ?_  | refine J_drawn mixed (by kernel_rfl) ?_ | refine aApp_sl ?_ | refine aApp_old ?_ | refine J_c ?_ | refine Jc_true ?_ | refine Jc_false ?_ | exact Frz.f _ | (refine Kont.go (by assumption) ?_) | (simp (config := { maxSteps := 3000000 }) (disch := omega) only [go_sem, Nat.reduceEqDiff, ↓reduceIte, Nat.reduceAdd, Nat.reduceLT, Nat.reduceLeDiff, Int.reduceLT, Int.reduceLE, Int.reduceEq, Int.reduceNe, Int.reduceAdd, Int.reduceSub, Int.reduceMul, Int.reduceNeg, Int.reduceToNat])) | refine And.intro (by omega) ?_ | refine And.intro (And.intro (by omega) (by omega)) ?_)
  first
    | refine call_f hp rfl ?_
    | refine call_f (cutP1_yes l c hl) rfl ?_
  repeat (first | (with_reducible first | refine W_seq fun K hK => ?_ | refine J_block ?_ | refine J_skip ?_ | refine J_exit ?_ | refine J_ret ?_ | refine J_region ?_  | refine J_drawn mixed (by kernel_rfl) ?_ | refine aApp_sl ?_ | refine aApp_old ?_ | refine J_c ?_ | refine Jc_true ?_ | refine Jc_false ?_ | exact Frz.f _ | (refine Kont.go (by assumption) ?_) | (simp (config := { maxSteps := 3000000 }) (disch := omega) only [go_sem, Nat.reduceEqDiff, ↓reduceIte, Nat.reduceAdd, Nat.reduceLT, Nat.reduceLeDiff, Int.reduceLT, Int.reduceLE, Int.reduceEq, Int.reduceNe, Int.reduceAdd, Int.reduceSub, Int.reduceMul, Int.reduceNeg, Int.reduceToNat, z1, z2, c1, x1])) | refine And.intro (by omega) ?_ | refine And.intro (And.intro (by omega) (by omega)) ?_)
  exact ⟨_, rfl, FrzL.fs [_, _]⟩
theorem cutP_yes (l : List UInt8) (c : UInt8) (hl : l.length + 1 ≤ 100000) : Good Tryd.prog 150 [St (bsl (c :: l)), St (bsl [c])] (.tup [St (bsl l), Bo true]) := by
  have c1 : ((1 : Nat) : Int) = 1 := rfl
  have z1 : (bsl (c :: l)).size = l.length + 1 := by rw [bsl_size, List.length_cons]
  have z2 : (bsl [c]).size = 1 := rfl
  have hp := hasP_w (c :: l) c (by simpa using hl)
  have e : decide ((c :: l).head? = some c) = true := by simp
  rw [e] at hp
  have x1 : (bsl (c :: l)).extract 1 (l.length + 1) = bsl l := by rw [bsl_extract]; congr 1; simp
  refine good_of Tryd.func150 rfl (by kernel_rfl) fun X hO => ?_; rw [Tryd.ntmps150, Tryd.results150]; simp only [ast0, List.map_cons, List.map_nil, List.length_cons, List.length_nil, Nat.reduceAdd, Nat.reduceSub, List.replicate_succ, List.replicate_zero, List.cons_append, List.nil_append]
  repeat (first | (with_reducible first | refine W_seq fun K hK => ?_ | refine J_block ?_ | refine J_skip ?_ | refine J_exit ?_ | refine J_ret ?_ | refine J_region ?_  | refine J_drawn mixed (by kernel_rfl) ?_ | refine aApp_sl ?_ | refine aApp_old ?_ | refine J_c ?_ | refine Jc_true ?_ | refine Jc_false ?_ | exact Frz.f _ | (refine Kont.go (by assumption) ?_) | (simp (config := { maxSteps := 3000000 }) (disch := omega) only [go_sem, Nat.reduceEqDiff, ↓reduceIte, Nat.reduceAdd, Nat.reduceLT, Nat.reduceLeDiff, Int.reduceLT, Int.reduceLE, Int.reduceEq, Int.reduceNe, Int.reduceAdd, Int.reduceSub, Int.reduceMul, Int.reduceNeg, Int.reduceToNat])) | refine And.intro (by omega) ?_ | refine And.intro (And.intro (by omega) (by omega)) ?_)
  first
    | refine call_f hp rfl ?_
    | refine call_f (cutP1_yes l c hl) rfl ?_
  repeat (first | (with_reducible first | refine W_seq fun K hK => ?_ | refine J_block ?_ | refine J_skip ?_ | refine J_exit ?_ | refine J_ret ?_ | refine J_region ?_  | refine J_drawn mixed (by kernel_rfl) ?_ | refine aApp_sl ?_ | refine aApp_old ?_ | refine J_c ?_ | refine Jc_true ?_ | refine Jc_false ?_ | exact Frz.f _ | (refine Kont.go (by assumption) ?_) | (simp (config := { maxSteps := 3000000 }) (disch := omega) only [go_sem, Nat.reduceEqDiff, ↓reduceIte, Nat.reduceAdd, Nat.reduceLT, Nat.reduceLeDiff, Int.reduceLT, Int.reduceLE, Int.reduceEq, Int.reduceNe, Int.reduceAdd, Int.reduceSub, Int.reduceMul, Int.reduceNeg, Int.reduceToNat, z1, z2, c1, x1])) | refine And.intro (by omega) ?_ | refine And.intro (And.intro (by omega) (by omega)) ?_)
  exact ⟨_, rfl, FrzL.fs [_, _]⟩
theorem cutP1_no (l : List UInt8) (c : UInt8) (hl : l.length ≤ 100000) (hc : l.head? ≠ some c) : Good Tryd.prog 189 [St (bsl l), St (bsl [c])] (.tup [St (bsl l), Bo false]) := by
  have hp := hasP_w l c hl
  rw [decide_eq_false hc] at hp
  refine good_of Tryd.func189 rfl (by kernel_rfl) fun X hO => ?_; rw [Tryd.ntmps189, Tryd.results189]; simp only [ast0, List.map_cons, List.map_nil, List.length_cons, List.length_nil, Nat.reduceAdd, Nat.reduceSub, List.replicate_succ, List.replicate_zero, List.cons_append, List.nil_append]
  repeat (first | (with_reducible first | refine W_seq fun K hK => ?_ | refine J_block ?_ | refine J_skip ?_ | refine J_exit ?_ | refine J_ret ?_ | refine J_region ?_  | refine J_drawn mixed (by kernel_rfl) ?_ | refine aApp_sl ?_ | refine aApp_old ?_ | refine J_c ?_ | refine Jc_true ?_ | refine Jc_false ?_ | exact Frz.f _ | (refine Kont.go (by assumption) ?_) | (simp (config := { maxSteps := 3000000 }) (disch := omega) only [go_sem, Nat.reduceEqDiff, ↓reduceIte, Nat.reduceAdd, Nat.reduceLT, Nat.reduceLeDiff, Int.reduceLT, Int.reduceLE, Int.reduceEq, Int.reduceNe, Int.reduceAdd, Int.reduceSub, Int.reduceMul, Int.reduceNeg, Int.reduceToNat])) | refine And.intro (by omega) ?_ | refine And.intro (And.intro (by omega) (by omega)) ?_)
  first
    | refine call_f hp rfl ?_
    | refine call_f (cutP1_no l c hl hc) rfl ?_
  repeat (first | (with_reducible first | refine W_seq fun K hK => ?_ | refine J_block ?_ | refine J_skip ?_ | refine J_exit ?_ | refine J_ret ?_ | refine J_region ?_  | refine J_drawn mixed (by kernel_rfl) ?_ | refine aApp_sl ?_ | refine aApp_old ?_ | refine J_c ?_ | refine Jc_true ?_ | refine Jc_false ?_ | exact Frz.f _ | (refine Kont.go (by assumption) ?_) | (simp (config := { maxSteps := 3000000 }) (disch := omega) only [go_sem, Nat.reduceEqDiff, ↓reduceIte, Nat.reduceAdd, Nat.reduceLT, Nat.reduceLeDiff, Int.reduceLT, Int.reduceLE, Int.reduceEq, Int.reduceNe, Int.reduceAdd, Int.reduceSub, Int.reduceMul, Int.reduceNeg, Int.reduceToNat])) | refine And.intro (by omega) ?_ | refine And.intro (And.intro (by omega) (by omega)) ?_)
  exact ⟨_, rfl, FrzL.fs [_, _]⟩
theorem cutP_no (l : List UInt8) (c : UInt8) (hl : l.length ≤ 100000) (hc : l.head? ≠ some c) : Good Tryd.prog 150 [St (bsl l), St (bsl [c])] (.tup [St (bsl l), Bo false]) := by
  have hp := hasP_w l c hl
  rw [decide_eq_false hc] at hp
  refine good_of Tryd.func150 rfl (by kernel_rfl) fun X hO => ?_; rw [Tryd.ntmps150, Tryd.results150]; simp only [ast0, List.map_cons, List.map_nil, List.length_cons, List.length_nil, Nat.reduceAdd, Nat.reduceSub, List.replicate_succ, List.replicate_zero, List.cons_append, List.nil_append]
  repeat (first | (with_reducible first | refine W_seq fun K hK => ?_ | refine J_block ?_ | refine J_skip ?_ | refine J_exit ?_ | refine J_ret ?_ | refine J_region ?_  | refine J_drawn mixed (by kernel_rfl) ?_ | refine aApp_sl ?_ | refine aApp_old ?_ | refine J_c ?_ | refine Jc_true ?_ | refine Jc_false ?_ | exact Frz.f _ | (refine Kont.go (by assumption) ?_) | (simp (config := { maxSteps := 3000000 }) (disch := omega) only [go_sem, Nat.reduceEqDiff, ↓reduceIte, Nat.reduceAdd, Nat.reduceLT, Nat.reduceLeDiff, Int.reduceLT, Int.reduceLE, Int.reduceEq, Int.reduceNe, Int.reduceAdd, Int.reduceSub, Int.reduceMul, Int.reduceNeg, Int.reduceToNat])) | refine And.intro (by omega) ?_ | refine And.intro (And.intro (by omega) (by omega)) ?_)
  first
    | refine call_f hp rfl ?_
    | refine call_f (cutP1_no l c hl hc) rfl ?_
  repeat (first | (with_reducible first | refine W_seq fun K hK => ?_ | refine J_block ?_ | refine J_skip ?_ | refine J_exit ?_ | refine J_ret ?_ | refine J_region ?_  | refine J_drawn mixed (by kernel_rfl) ?_ | refine aApp_sl ?_ | refine aApp_old ?_ | refine J_c ?_ | refine Jc_true ?_ | refine Jc_false ?_ | exact Frz.f _ | (refine Kont.go (by assumption) ?_) | (simp (config := { maxSteps := 3000000 }) (disch := omega) only [go_sem, Nat.reduceEqDiff, ↓reduceIte, Nat.reduceAdd, Nat.reduceLT, Nat.reduceLeDiff, Int.reduceLT, Int.reduceLE, Int.reduceEq, Int.reduceNe, Int.reduceAdd, Int.reduceSub, Int.reduceMul, Int.reduceNeg, Int.reduceToNat])) | refine And.intro (by omega) ?_ | refine And.intro (And.intro (by omega) (by omega)) ?_)
  exact ⟨_, rfl, FrzL.fs [_, _]⟩
theorem cut1_yes (l k : List UInt8) (c : UInt8) (hl : (l ++ c :: k).length ≤ 100000) (hc : c ∉ l) : Good Tryd.prog 190 [St (bsl (l ++ c :: k)), St (bsl [c])] (.tup [St (bsl l), St (bsl k), Bo true]) := by
  have c1 : ((1 : Nat) : Int) = 1 := rfl
  have hi := index_w (l ++ c :: k) c hl
  rw [ib_at hc] at hi
  have z1 : (bsl (l ++ c :: k)).size = l.length + (k.length + 1) := by rw [bsl_size, List.length_append, List.length_cons]
  rw [List.length_append, List.length_cons] at hl
  have z2 : (bsl [c]).size = 1 := rfl
  have n1 : ((l.length : Int) + 1).toNat = l.length + 1 := by omega
  have x1 : (bsl (l ++ c :: k)).extract 0 l.length = bsl l := by rw [bsl_extract]; congr 1; simp
  have x2 : (bsl (l ++ c :: k)).extract (l.length + 1) (l.length + (k.length + 1)) = bsl k := by
    rw [bsl_extract]
    congr 1
    rw [show l.length + (k.length + 1) - (l.length + 1) = k.length by omega, List.drop_append, List.drop_eq_nil_of_le (by omega), show l.length + 1 - l.length = 1 by omega]
    simp
  refine good_of Tryd.func190 rfl (by kernel_rfl) fun X hO => ?_; rw [Tryd.ntmps190, Tryd.results190]; simp only [ast0, List.map_cons, List.map_nil, List.length_cons, List.length_nil, Nat.reduceAdd, Nat.reduceSub, List.replicate_succ, List.replicate_zero, List.cons_append, List.nil_append]
  repeat (first | (with_reducible first | refine W_seq fun K hK => ?_ | refine J_block ?_ | refine J_skip ?_ | refine J_exit ?_ | refine J_ret ?_ | refine J_region ?_  | refine J_drawn mixed (by kernel_rfl) ?_ | refine aApp_sl ?_ | refine aApp_old ?_ | refine J_c ?_ | refine Jc_true ?_ | refine Jc_false ?_ | exact Frz.f _ | (refine Kont.go (by assumption) ?_) | (simp (config := { maxSteps := 3000000 }) (disch := omega) only [go_sem, Nat.reduceEqDiff, ↓reduceIte, Nat.reduceAdd, Nat.reduceLT, Nat.reduceLeDiff, Int.reduceLT, Int.reduceLE, Int.reduceEq, Int.reduceNe, Int.reduceAdd, Int.reduceSub, Int.reduceMul, Int.reduceNeg, Int.reduceToNat])) | refine And.intro (by omega) ?_ | refine And.intro (And.intro (by omega) (by omega)) ?_)
  first
    | refine call_f hi rfl ?_
    | refine call_f (cut1_yes l k c (by rw [List.length_append, List.length_cons]; exact hl) hc) rfl ?_
  repeat (first | (with_reducible first | refine W_seq fun K hK => ?_ | refine J_block ?_ | refine J_skip ?_ | refine J_exit ?_ | refine J_ret ?_ | refine J_region ?_  | refine J_drawn mixed (by kernel_rfl) ?_ | refine aApp_sl ?_ | refine aApp_old ?_ | refine J_c ?_ | refine Jc_true ?_ | refine Jc_false ?_ | exact Frz.f _ | (refine Kont.go (by assumption) ?_) | (simp (config := { maxSteps := 3000000 }) (disch := omega) only [go_sem, Nat.reduceEqDiff, ↓reduceIte, Nat.reduceAdd, Nat.reduceLT, Nat.reduceLeDiff, Int.reduceLT, Int.reduceLE, Int.reduceEq, Int.reduceNe, Int.reduceAdd, Int.reduceSub, Int.reduceMul, Int.reduceNeg, Int.reduceToNat, z1, z2, c1, n1, x1, x2, Nat.reduceMul, Nat.le_refl, true_and, and_true, and_self])) | refine And.intro (by omega) ?_ | refine And.intro (And.intro (by omega) (by omega)) ?_)
  exact ⟨_, rfl, FrzL.fs [_, _, _]⟩
theorem cut1_no (l : List UInt8) (c : UInt8) (hl : l.length ≤ 100000) (hc : c ∉ l) : Good Tryd.prog 190 [St (bsl l), St (bsl [c])] (.tup [St (bsl l), St (bsl []), Bo false]) := by
  have hi := index_w l c hl
  rw [ib_none hc] at hi
  refine good_of Tryd.func190 rfl (by kernel_rfl) fun X hO => ?_; rw [Tryd.ntmps190, Tryd.results190]; simp only [ast0, List.map_cons, List.map_nil, List.length_cons, List.length_nil, Nat.reduceAdd, Nat.reduceSub, List.replicate_succ, List.replicate_zero, List.cons_append, List.nil_append]
  repeat (first | (with_reducible first | refine W_seq fun K hK => ?_ | refine J_block ?_ | refine J_skip ?_ | refine J_exit ?_ | refine J_ret ?_ | refine J_region ?_  | refine J_drawn mixed (by kernel_rfl) ?_ | refine aApp_sl ?_ | refine aApp_old ?_ | refine J_c ?_ | refine Jc_true ?_ | refine Jc_false ?_ | exact Frz.f _ | (refine Kont.go (by assumption) ?_) | (simp (config := { maxSteps := 3000000 }) (disch := omega) only [go_sem, Nat.reduceEqDiff, ↓reduceIte, Nat.reduceAdd, Nat.reduceLT, Nat.reduceLeDiff, Int.reduceLT, Int.reduceLE, Int.reduceEq, Int.reduceNe, Int.reduceAdd, Int.reduceSub, Int.reduceMul, Int.reduceNeg, Int.reduceToNat])) | refine And.intro (by omega) ?_ | refine And.intro (And.intro (by omega) (by omega)) ?_)
  first
    | refine call_f hi rfl ?_
    | refine call_f (cut1_no l c hl hc) rfl ?_
  repeat (first | (with_reducible first | refine W_seq fun K hK => ?_ | refine J_block ?_ | refine J_skip ?_ | refine J_exit ?_ | refine J_ret ?_ | refine J_region ?_  | refine J_drawn mixed (by kernel_rfl) ?_ | refine aApp_sl ?_ | refine aApp_old ?_ | refine J_c ?_ | refine Jc_true ?_ | refine Jc_false ?_ | exact Frz.f _ | (refine Kont.go (by assumption) ?_) | (simp (config := { maxSteps := 3000000 }) (disch := omega) only [go_sem, Nat.reduceEqDiff, ↓reduceIte, Nat.reduceAdd, Nat.reduceLT, Nat.reduceLeDiff, Int.reduceLT, Int.reduceLE, Int.reduceEq, Int.reduceNe, Int.reduceAdd, Int.reduceSub, Int.reduceMul, Int.reduceNeg, Int.reduceToNat])) | refine And.intro (by omega) ?_ | refine And.intro (And.intro (by omega) (by omega)) ?_)
  exact ⟨_, rfl, FrzL.fs [_, _, _]⟩
theorem cut_yes (l k : List UInt8) (c : UInt8) (hl : (l ++ c :: k).length ≤ 100000) (hc : c ∉ l) : Good Tryd.prog 151 [St (bsl (l ++ c :: k)), St (bsl [c])] (.tup [St (bsl l), St (bsl k), Bo true]) := by
  have c1 : ((1 : Nat) : Int) = 1 := rfl
  have hi := index_w (l ++ c :: k) c hl
  rw [ib_at hc] at hi
  have z1 : (bsl (l ++ c :: k)).size = l.length + (k.length + 1) := by rw [bsl_size, List.length_append, List.length_cons]
  rw [List.length_append, List.length_cons] at hl
  have z2 : (bsl [c]).size = 1 := rfl
  have n1 : ((l.length : Int) + 1).toNat = l.length + 1 := by omega
  have x1 : (bsl (l ++ c :: k)).extract 0 l.length = bsl l := by rw [bsl_extract]; congr 1; simp
  have x2 : (bsl (l ++ c :: k)).extract (l.length + 1) (l.length + (k.length + 1)) = bsl k := by
    rw [bsl_extract]
    congr 1
    rw [show l.length + (k.length + 1) - (l.length + 1) = k.length by omega, List.drop_append, List.drop_eq_nil_of_le (by omega), show l.length + 1 - l.length = 1 by omega]
    simp
  refine good_of Tryd.func151 rfl (by kernel_rfl) fun X hO => ?_; rw [Tryd.ntmps151, Tryd.results151]; simp only [ast0, List.map_cons, List.map_nil, List.length_cons, List.length_nil, Nat.reduceAdd, Nat.reduceSub, List.replicate_succ, List.replicate_zero, List.cons_append, List.nil_append]
  repeat (first | (with_reducible first | refine W_seq fun K hK => ?_ | refine J_block ?_ | refine J_skip ?_ | refine J_exit ?_ | refine J_ret ?_ | refine J_region ?_  | refine J_drawn mixed (by kernel_rfl) ?_ | refine aApp_sl ?_ | refine aApp_old ?_ | refine J_c ?_ | refine Jc_true ?_ | refine Jc_false ?_ | exact Frz.f _ | (refine Kont.go (by assumption) ?_) | (simp (config := { maxSteps := 3000000 }) (disch := omega) only [go_sem, Nat.reduceEqDiff, ↓reduceIte, Nat.reduceAdd, Nat.reduceLT, Nat.reduceLeDiff, Int.reduceLT, Int.reduceLE, Int.reduceEq, Int.reduceNe, Int.reduceAdd, Int.reduceSub, Int.reduceMul, Int.reduceNeg, Int.reduceToNat])) | refine And.intro (by omega) ?_ | refine And.intro (And.intro (by omega) (by omega)) ?_)
  first
    | refine call_f hi rfl ?_
    | refine call_f (cut1_yes l k c (by rw [List.length_append, List.length_cons]; exact hl) hc) rfl ?_
  repeat (first | (with_reducible first | refine W_seq fun K hK => ?_ | refine J_block ?_ | refine J_skip ?_ | refine J_exit ?_ | refine J_ret ?_ | refine J_region ?_  | refine J_drawn mixed (by kernel_rfl) ?_ | refine aApp_sl ?_ | refine aApp_old ?_ | refine J_c ?_ | refine Jc_true ?_ | refine Jc_false ?_ | exact Frz.f _ | (refine Kont.go (by assumption) ?_) | (simp (config := { maxSteps := 3000000 }) (disch := omega) only [go_sem, Nat.reduceEqDiff, ↓reduceIte, Nat.reduceAdd, Nat.reduceLT, Nat.reduceLeDiff, Int.reduceLT, Int.reduceLE, Int.reduceEq, Int.reduceNe, Int.reduceAdd, Int.reduceSub, Int.reduceMul, Int.reduceNeg, Int.reduceToNat, z1, z2, c1, n1, x1, x2, Nat.reduceMul, Nat.le_refl, true_and, and_true, and_self])) | refine And.intro (by omega) ?_ | refine And.intro (And.intro (by omega) (by omega)) ?_)
  exact ⟨_, rfl, FrzL.fs [_, _, _]⟩
theorem cut_no (l : List UInt8) (c : UInt8) (hl : l.length ≤ 100000) (hc : c ∉ l) : Good Tryd.prog 151 [St (bsl l), St (bsl [c])] (.tup [St (bsl l), St (bsl []), Bo false]) := by
  have hi := index_w l c hl
  rw [ib_none hc] at hi
  refine good_of Tryd.func151 rfl (by kernel_rfl) fun X hO => ?_; rw [Tryd.ntmps151, Tryd.results151]; simp only [ast0, List.map_cons, List.map_nil, List.length_cons, List.length_nil, Nat.reduceAdd, Nat.reduceSub, List.replicate_succ, List.replicate_zero, List.cons_append, List.nil_append]
  repeat (first | (with_reducible first | refine W_seq fun K hK => ?_ | refine J_block ?_ | refine J_skip ?_ | refine J_exit ?_ | refine J_ret ?_ | refine J_region ?_  | refine J_drawn mixed (by kernel_rfl) ?_ | refine aApp_sl ?_ | refine aApp_old ?_ | refine J_c ?_ | refine Jc_true ?_ | refine Jc_false ?_ | exact Frz.f _ | (refine Kont.go (by assumption) ?_) | (simp (config := { maxSteps := 3000000 }) (disch := omega) only [go_sem, Nat.reduceEqDiff, ↓reduceIte, Nat.reduceAdd, Nat.reduceLT, Nat.reduceLeDiff, Int.reduceLT, Int.reduceLE, Int.reduceEq, Int.reduceNe, Int.reduceAdd, Int.reduceSub, Int.reduceMul, Int.reduceNeg, Int.reduceToNat])) | refine And.intro (by omega) ?_ | refine And.intro (And.intro (by omega) (by omega)) ?_)
  first
    | refine call_f hi rfl ?_
    | refine call_f (cut1_no l c hl hc) rfl ?_
  repeat (first | (with_reducible first | refine W_seq fun K hK => ?_ | refine J_block ?_ | refine J_skip ?_ | refine J_exit ?_ | refine J_ret ?_ | refine J_region ?_  | refine J_drawn mixed (by kernel_rfl) ?_ | refine aApp_sl ?_ | refine aApp_old ?_ | refine J_c ?_ | refine Jc_true ?_ | refine Jc_false ?_ | exact Frz.f _ | (refine Kont.go (by assumption) ?_) | (simp (config := { maxSteps := 3000000 }) (disch := omega) only [go_sem, Nat.reduceEqDiff, ↓reduceIte, Nat.reduceAdd, Nat.reduceLT, Nat.reduceLeDiff, Int.reduceLT, Int.reduceLE, Int.reduceEq, Int.reduceNe, Int.reduceAdd, Int.reduceSub, Int.reduceMul, Int.reduceNeg, Int.reduceToNat])) | refine And.intro (by omega) ?_ | refine And.intro (And.intro (by omega) (by omega)) ?_)
  exact ⟨_, rfl, FrzL.fs [_, _, _]⟩
end
theorem text_dig (n : Nat) : ∀ c ∈ textOf n, isDig c = true := by
  unfold textOf
  split
  · intro c hc
    have : c = 48 := by simpa using hc
    rw [this]; decide
  · intro c hc
    exact List.all_eq_true.1 (dec_digits n) c hc
theorem text_no {n : Nat} {c : UInt8} (h : isDig c = false) : c ∉ textOf n := fun hc => by rw [text_dig n c hc] at h; cases h
theorem body_len {q : Rat} (hz : Fz q 160) : (bodyT q).length ≤ 1000 := by
  have h1 := text_len hz.1
  have h2 := text_len hz.2
  unfold bodyT
  split
  · omega
  · rw [List.length_append, List.length_cons]; omega
theorem body_head {q : Rat} {c : UInt8} (h : isDig c = false) : (bodyT q).head? ≠ some c := by
  obtain ⟨a, l, e⟩ := List.exists_cons_of_ne_nil (text_ne q.num.natAbs)
  have ha := text_dig q.num.natAbs a (by rw [e]; simp)
  have : (bodyT q).head? = some a := by
    unfold bodyT
    split
    · rw [e]; rfl
    · rw [e]; rfl
  rw [this]
  intro e2
  rw [Option.some.inj e2, h] at ha
  cases ha
set_option maxRecDepth 100000 in
set_option maxHeartbeats 4000000 in
theorem ratio_w {q : Rat} (hz : Fz q 160) : Good Tryd.prog 152 [Bo (cg q), St (bsl (textOf q.num.natAbs)), St (bsl (textOf q.den))] (.tup [fr q, I 0]) := by
  have h1 := text_len hz.1
  have h2 := text_len hz.2
  have n1 := nparse_good (textOf q.num.natAbs) (by unfold maxLen; omega)
  have n2 := nparse_good (textOf q.den) (by unfold maxLen; omega)
  obtain ⟨a1, b1⟩ := parse_text q.num.natAbs h1
  obtain ⟨a2, b2⟩ := parse_text q.den h2
  rw [a1, b1] at n1
  rw [a2, b2] at n2
  have hm := fmake_good (cg q) (ns q.num.natAbs) (ns q.den) (by rw [ns_size]; have := nb_length_lt hz.1; omega) (by rw [ns_size]; have := nb_length_lt hz.2; omega)
  have hr : rv (cg q) (ns q.num.natAbs) (ns q.den) = q := rv_c q
  rw [hr] at hm
  have hne : (ns q.den = (⟨#[]⟩ : ByteArray)) = False := eq_false fun h => by
    have := congrArg vn h
    rw [vn_ns] at this
    have h0 : vn (⟨#[]⟩ : ByteArray) = 0 := rfl
    rw [h0] at this
    exact q.den_nz this
  refine good_of Tryd.func152 rfl (by kernel_rfl) fun X hO => ?_; rw [Tryd.ntmps152, Tryd.results152]; simp only [ast0, List.map_cons, List.map_nil, List.length_cons, List.length_nil, Nat.reduceAdd, Nat.reduceSub, List.replicate_succ, List.replicate_zero, List.cons_append, List.nil_append]
  repeat (first | (with_reducible first | refine W_seq fun K hK => ?_ | refine J_block ?_ | refine J_skip ?_ | refine J_exit ?_ | refine J_ret ?_ | refine J_region ?_  | refine J_drawn mixed (by kernel_rfl) ?_ | refine aApp_sl ?_ | refine aApp_old ?_ | refine J_c ?_ | refine Jc_true ?_ | refine Jc_false ?_ | exact Frz.f _ | (refine Kont.go (by assumption) ?_) | (simp (config := { maxSteps := 3000000 }) (disch := omega) only [go_sem, Nat.reduceEqDiff, ↓reduceIte, Nat.reduceAdd, Nat.reduceLT, Nat.reduceLeDiff, Int.reduceLT, Int.reduceLE, Int.reduceEq, Int.reduceNe, Int.reduceAdd, Int.reduceSub, Int.reduceMul, Int.reduceNeg, Int.reduceToNat])) | refine And.intro (by omega) ?_ | refine And.intro (And.intro (by omega) (by omega)) ?_)
  refine call_f n1 rfl ?_
  repeat (first | (with_reducible first | refine W_seq fun K hK => ?_ | refine J_block ?_ | refine J_skip ?_ | refine J_exit ?_ | refine J_ret ?_ | refine J_region ?_  | refine J_drawn mixed (by kernel_rfl) ?_ | refine aApp_sl ?_ | refine aApp_old ?_ | refine J_c ?_ | refine Jc_true ?_ | refine Jc_false ?_ | exact Frz.f _ | (refine Kont.go (by assumption) ?_) | (simp (config := { maxSteps := 3000000 }) (disch := omega) only [go_sem, Nat.reduceEqDiff, ↓reduceIte, Nat.reduceAdd, Nat.reduceLT, Nat.reduceLeDiff, Int.reduceLT, Int.reduceLE, Int.reduceEq, Int.reduceNe, Int.reduceAdd, Int.reduceSub, Int.reduceMul, Int.reduceNeg, Int.reduceToNat])) | refine And.intro (by omega) ?_ | refine And.intro (And.intro (by omega) (by omega)) ?_)
  refine call_f n2 rfl ?_
  repeat (first | (with_reducible first | refine W_seq fun K hK => ?_ | refine J_block ?_ | refine J_skip ?_ | refine J_exit ?_ | refine J_ret ?_ | refine J_region ?_  | refine J_drawn mixed (by kernel_rfl) ?_ | refine aApp_sl ?_ | refine aApp_old ?_ | refine J_c ?_ | refine Jc_true ?_ | refine Jc_false ?_ | exact Frz.f _ | (refine Kont.go (by assumption) ?_) | (simp (config := { maxSteps := 3000000 }) (disch := omega) only [go_sem, Nat.reduceEqDiff, ↓reduceIte, Nat.reduceAdd, Nat.reduceLT, Nat.reduceLeDiff, Int.reduceLT, Int.reduceLE, Int.reduceEq, Int.reduceNe, Int.reduceAdd, Int.reduceSub, Int.reduceMul, Int.reduceNeg, Int.reduceToNat, hne, decide_false])) | refine And.intro (by omega) ?_ | refine And.intro (And.intro (by omega) (by omega)) ?_)
  refine call_f hm rfl ?_
  repeat (first | (with_reducible first | refine W_seq fun K hK => ?_ | refine J_block ?_ | refine J_skip ?_ | refine J_exit ?_ | refine J_ret ?_ | refine J_region ?_  | refine J_drawn mixed (by kernel_rfl) ?_ | refine aApp_sl ?_ | refine aApp_old ?_ | refine J_c ?_ | refine Jc_true ?_ | refine Jc_false ?_ | exact Frz.f _ | (refine Kont.go (by assumption) ?_) | (simp (config := { maxSteps := 3000000 }) (disch := omega) only [go_sem, Nat.reduceEqDiff, ↓reduceIte, Nat.reduceAdd, Nat.reduceLT, Nat.reduceLeDiff, Int.reduceLT, Int.reduceLE, Int.reduceEq, Int.reduceNe, Int.reduceAdd, Int.reduceSub, Int.reduceMul, Int.reduceNeg, Int.reduceToNat])) | refine And.intro (by omega) ?_ | refine And.intro (And.intro (by omega) (by omega)) ?_)
  exact ⟨_, rfl, FrzL.fs [_, _]⟩
set_option maxRecDepth 100000 in
set_option maxHeartbeats 4000000 in
theorem fparse_w {q : Rat} (hz : Fz q 160) : Good Tryd.prog 74 [St (bsl (fracT q))] (.tup [fr q, I 0]) := by
  have h1 := text_len hz.1
  have h2 := text_len hz.2
  have hbl := body_len hz
  have hcut : Good Tryd.prog 150 [St (bsl (fracT q)), St (bsl [45])] (.tup [St (bsl (bodyT q)), Bo (cg q)]) := by
    cases hg : cg q with
    | true =>
      have e : fracT q = 45 :: bodyT q := by unfold fracT; rw [if_pos hg]
      rw [e]; exact cutP_yes _ _ (by omega)
    | false =>
      have e : fracT q = bodyT q := by unfold fracT; rw [if_neg (by rw [hg]; decide)]
      rw [e]; exact cutP_no _ _ (by omega) (body_head (by decide))
  by_cases hd : q.den = 1
  · have eb : bodyT q = textOf q.num.natAbs := by unfold bodyT; rw [if_pos hd]
    rw [eb] at hcut
    have k1 := cut_no (textOf q.num.natAbs) 47 (by omega) (text_no (by decide))
    have k2 := cut_no (textOf q.num.natAbs) 46 (by omega) (text_no (by decide))
    have n1 := nparse_good (textOf q.num.natAbs) (by unfold maxLen; omega)
    obtain ⟨a1, b1⟩ := parse_text q.num.natAbs h1
    rw [a1, b1] at n1
    have hm := fmake_good (cg q) (ns q.num.natAbs) (bsl [1]) (by rw [ns_size]; have := nb_length_lt hz.1; omega) (by rw [bsl_size]; decide)
    have hr : rv (cg q) (ns q.num.natAbs) (bsl [1]) = q := by
      have := rv_c q
      unfold cd at this
      rw [hd, ns_one] at this
      exact this
    rw [hr] at hm
    refine good_of Tryd.func74 rfl (by kernel_rfl) fun X hO => ?_; rw [Tryd.ntmps74, Tryd.results74]; simp only [ast0, List.map_cons, List.map_nil, List.length_cons, List.length_nil, Nat.reduceAdd, Nat.reduceSub, List.replicate_succ, List.replicate_zero, List.cons_append, List.nil_append]
    repeat (first | (with_reducible first | refine W_seq fun K hK => ?_ | refine J_block ?_ | refine J_skip ?_ | refine J_exit ?_ | refine J_ret ?_ | refine J_region ?_  | refine J_drawn mixed (by kernel_rfl) ?_ | refine aApp_sl ?_ | refine aApp_old ?_ | refine J_c ?_ | refine Jc_true ?_ | refine Jc_false ?_ | exact Frz.f _ | (refine Kont.go (by assumption) ?_) | (simp (config := { maxSteps := 3000000 }) (disch := omega) only [go_sem, Nat.reduceEqDiff, ↓reduceIte, Nat.reduceAdd, Nat.reduceLT, Nat.reduceLeDiff, Int.reduceLT, Int.reduceLE, Int.reduceEq, Int.reduceNe, Int.reduceAdd, Int.reduceSub, Int.reduceMul, Int.reduceNeg, Int.reduceToNat])) | refine And.intro (by omega) ?_ | refine And.intro (And.intro (by omega) (by omega)) ?_)
    refine call_f hcut rfl ?_
    repeat (first | (with_reducible first | refine W_seq fun K hK => ?_ | refine J_block ?_ | refine J_skip ?_ | refine J_exit ?_ | refine J_ret ?_ | refine J_region ?_  | refine J_drawn mixed (by kernel_rfl) ?_ | refine aApp_sl ?_ | refine aApp_old ?_ | refine J_c ?_ | refine Jc_true ?_ | refine Jc_false ?_ | exact Frz.f _ | (refine Kont.go (by assumption) ?_) | (simp (config := { maxSteps := 3000000 }) (disch := omega) only [go_sem, Nat.reduceEqDiff, ↓reduceIte, Nat.reduceAdd, Nat.reduceLT, Nat.reduceLeDiff, Int.reduceLT, Int.reduceLE, Int.reduceEq, Int.reduceNe, Int.reduceAdd, Int.reduceSub, Int.reduceMul, Int.reduceNeg, Int.reduceToNat])) | refine And.intro (by omega) ?_ | refine And.intro (And.intro (by omega) (by omega)) ?_)
    refine call_f k1 rfl ?_
    repeat (first | (with_reducible first | refine W_seq fun K hK => ?_ | refine J_block ?_ | refine J_skip ?_ | refine J_exit ?_ | refine J_ret ?_ | refine J_region ?_  | refine J_drawn mixed (by kernel_rfl) ?_ | refine aApp_sl ?_ | refine aApp_old ?_ | refine J_c ?_ | refine Jc_true ?_ | refine Jc_false ?_ | exact Frz.f _ | (refine Kont.go (by assumption) ?_) | (simp (config := { maxSteps := 3000000 }) (disch := omega) only [go_sem, Nat.reduceEqDiff, ↓reduceIte, Nat.reduceAdd, Nat.reduceLT, Nat.reduceLeDiff, Int.reduceLT, Int.reduceLE, Int.reduceEq, Int.reduceNe, Int.reduceAdd, Int.reduceSub, Int.reduceMul, Int.reduceNeg, Int.reduceToNat])) | refine And.intro (by omega) ?_ | refine And.intro (And.intro (by omega) (by omega)) ?_)
    refine call_f k2 rfl ?_
    repeat (first | (with_reducible first | refine W_seq fun K hK => ?_ | refine J_block ?_ | refine J_skip ?_ | refine J_exit ?_ | refine J_ret ?_ | refine J_region ?_  | refine J_drawn mixed (by kernel_rfl) ?_ | refine aApp_sl ?_ | refine aApp_old ?_ | refine J_c ?_ | refine Jc_true ?_ | refine Jc_false ?_ | exact Frz.f _ | (refine Kont.go (by assumption) ?_) | (simp (config := { maxSteps := 3000000 }) (disch := omega) only [go_sem, Nat.reduceEqDiff, ↓reduceIte, Nat.reduceAdd, Nat.reduceLT, Nat.reduceLeDiff, Int.reduceLT, Int.reduceLE, Int.reduceEq, Int.reduceNe, Int.reduceAdd, Int.reduceSub, Int.reduceMul, Int.reduceNeg, Int.reduceToNat])) | refine And.intro (by omega) ?_ | refine And.intro (And.intro (by omega) (by omega)) ?_)
    refine call_f n1 rfl ?_
    repeat (first | (with_reducible first | refine W_seq fun K hK => ?_ | refine J_block ?_ | refine J_skip ?_ | refine J_exit ?_ | refine J_ret ?_ | refine J_region ?_  | refine J_drawn mixed (by kernel_rfl) ?_ | refine aApp_sl ?_ | refine aApp_old ?_ | refine J_c ?_ | refine Jc_true ?_ | refine Jc_false ?_ | exact Frz.f _ | (refine Kont.go (by assumption) ?_) | (simp (config := { maxSteps := 3000000 }) (disch := omega) only [go_sem, Nat.reduceEqDiff, ↓reduceIte, Nat.reduceAdd, Nat.reduceLT, Nat.reduceLeDiff, Int.reduceLT, Int.reduceLE, Int.reduceEq, Int.reduceNe, Int.reduceAdd, Int.reduceSub, Int.reduceMul, Int.reduceNeg, Int.reduceToNat])) | refine And.intro (by omega) ?_ | refine And.intro (And.intro (by omega) (by omega)) ?_)
    refine call_f hm rfl ?_
    repeat (first | (with_reducible first | refine W_seq fun K hK => ?_ | refine J_block ?_ | refine J_skip ?_ | refine J_exit ?_ | refine J_ret ?_ | refine J_region ?_  | refine J_drawn mixed (by kernel_rfl) ?_ | refine aApp_sl ?_ | refine aApp_old ?_ | refine J_c ?_ | refine Jc_true ?_ | refine Jc_false ?_ | exact Frz.f _ | (refine Kont.go (by assumption) ?_) | (simp (config := { maxSteps := 3000000 }) (disch := omega) only [go_sem, Nat.reduceEqDiff, ↓reduceIte, Nat.reduceAdd, Nat.reduceLT, Nat.reduceLeDiff, Int.reduceLT, Int.reduceLE, Int.reduceEq, Int.reduceNe, Int.reduceAdd, Int.reduceSub, Int.reduceMul, Int.reduceNeg, Int.reduceToNat])) | refine And.intro (by omega) ?_ | refine And.intro (And.intro (by omega) (by omega)) ?_)
    exact ⟨_, rfl, FrzL.fs [_, _]⟩
  · have eb : bodyT q = textOf q.num.natAbs ++ 47 :: textOf q.den := by unfold bodyT; rw [if_neg hd]
    have k1 := cut_yes (textOf q.num.natAbs) (textOf q.den) 47 (by rw [← eb]; omega) (text_no (by decide))
    rw [← eb] at k1
    have hr := ratio_w hz
    refine good_of Tryd.func74 rfl (by kernel_rfl) fun X hO => ?_; rw [Tryd.ntmps74, Tryd.results74]; simp only [ast0, List.map_cons, List.map_nil, List.length_cons, List.length_nil, Nat.reduceAdd, Nat.reduceSub, List.replicate_succ, List.replicate_zero, List.cons_append, List.nil_append]
    repeat (first | (with_reducible first | refine W_seq fun K hK => ?_ | refine J_block ?_ | refine J_skip ?_ | refine J_exit ?_ | refine J_ret ?_ | refine J_region ?_  | refine J_drawn mixed (by kernel_rfl) ?_ | refine aApp_sl ?_ | refine aApp_old ?_ | refine J_c ?_ | refine Jc_true ?_ | refine Jc_false ?_ | exact Frz.f _ | (refine Kont.go (by assumption) ?_) | (simp (config := { maxSteps := 3000000 }) (disch := omega) only [go_sem, Nat.reduceEqDiff, ↓reduceIte, Nat.reduceAdd, Nat.reduceLT, Nat.reduceLeDiff, Int.reduceLT, Int.reduceLE, Int.reduceEq, Int.reduceNe, Int.reduceAdd, Int.reduceSub, Int.reduceMul, Int.reduceNeg, Int.reduceToNat])) | refine And.intro (by omega) ?_ | refine And.intro (And.intro (by omega) (by omega)) ?_)
    refine call_f hcut rfl ?_
    repeat (first | (with_reducible first | refine W_seq fun K hK => ?_ | refine J_block ?_ | refine J_skip ?_ | refine J_exit ?_ | refine J_ret ?_ | refine J_region ?_  | refine J_drawn mixed (by kernel_rfl) ?_ | refine aApp_sl ?_ | refine aApp_old ?_ | refine J_c ?_ | refine Jc_true ?_ | refine Jc_false ?_ | exact Frz.f _ | (refine Kont.go (by assumption) ?_) | (simp (config := { maxSteps := 3000000 }) (disch := omega) only [go_sem, Nat.reduceEqDiff, ↓reduceIte, Nat.reduceAdd, Nat.reduceLT, Nat.reduceLeDiff, Int.reduceLT, Int.reduceLE, Int.reduceEq, Int.reduceNe, Int.reduceAdd, Int.reduceSub, Int.reduceMul, Int.reduceNeg, Int.reduceToNat])) | refine And.intro (by omega) ?_ | refine And.intro (And.intro (by omega) (by omega)) ?_)
    refine call_f k1 rfl ?_
    repeat (first | (with_reducible first | refine W_seq fun K hK => ?_ | refine J_block ?_ | refine J_skip ?_ | refine J_exit ?_ | refine J_ret ?_ | refine J_region ?_  | refine J_drawn mixed (by kernel_rfl) ?_ | refine aApp_sl ?_ | refine aApp_old ?_ | refine J_c ?_ | refine Jc_true ?_ | refine Jc_false ?_ | exact Frz.f _ | (refine Kont.go (by assumption) ?_) | (simp (config := { maxSteps := 3000000 }) (disch := omega) only [go_sem, Nat.reduceEqDiff, ↓reduceIte, Nat.reduceAdd, Nat.reduceLT, Nat.reduceLeDiff, Int.reduceLT, Int.reduceLE, Int.reduceEq, Int.reduceNe, Int.reduceAdd, Int.reduceSub, Int.reduceMul, Int.reduceNeg, Int.reduceToNat])) | refine And.intro (by omega) ?_ | refine And.intro (And.intro (by omega) (by omega)) ?_)
    refine call_f hr rfl ?_
    repeat (first | (with_reducible first | refine W_seq fun K hK => ?_ | refine J_block ?_ | refine J_skip ?_ | refine J_exit ?_ | refine J_ret ?_ | refine J_region ?_  | refine J_drawn mixed (by kernel_rfl) ?_ | refine aApp_sl ?_ | refine aApp_old ?_ | refine J_c ?_ | refine Jc_true ?_ | refine Jc_false ?_ | exact Frz.f _ | (refine Kont.go (by assumption) ?_) | (simp (config := { maxSteps := 3000000 }) (disch := omega) only [go_sem, Nat.reduceEqDiff, ↓reduceIte, Nat.reduceAdd, Nat.reduceLT, Nat.reduceLeDiff, Int.reduceLT, Int.reduceLE, Int.reduceEq, Int.reduceNe, Int.reduceAdd, Int.reduceSub, Int.reduceMul, Int.reduceNeg, Int.reduceToNat])) | refine And.intro (by omega) ?_ | refine And.intro (And.intro (by omega) (by omega)) ?_)
    exact ⟨_, rfl, FrzL.fs [_, _]⟩
end Go.Proofs.YtabmgfchkcmcmaaDoor
