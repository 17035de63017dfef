/- Walks: frac.Add, frac.Mul, frac.Sub, frac.Div, frac.Cmp over fractions as rationals. Conditions: strings within 2^35 bytes. -/
import Derived.Test.YtlloghbaggdhnaaDoorFracC
set_option linter.unusedVariables false
set_option linter.unusedSimpArgs false
namespace Go.Proofs.YtlloghbaggdhnaaDoor
open Go Go.RowKit
open Go.IntWalk (wrap64_in)

theorem fadd_any (g : Bool) (n d : ByteArray) (g2 : Bool) (n2 d2 : ByteArray) (w : World) {k : Nat} (h0 : 1 ≤ k) (hk : k ≤ 34359738368) (h1 : n.size ≤ k) (h2 : d.size ≤ k) (h3 : n2.size ≤ k) (h4 : d2.size ≤ k) :
    Calls Tryd.prog 14 #[agf g n d, agf g2 n2 d2] w (RetFr w (rv g n d + rv g2 n2 d2)) := by
  obtain ⟨ga, na, da, z1, e1, s1, s2, W1⟩ := whole_any g n d h0 (by omega) h1 h2
  obtain ⟨gb, nb_, db, z2, e2, s3, s4, W2⟩ := whole_any g2 n2 d2 h0 (by omega) h3 h4
  rw [e1, e2]
  exact fadd_in g n d g2 n2 d2 ga na da gb nb_ db w W1 W2 z1 z2 (by omega) (by omega) (by omega) (by omega)
theorem fmul_any (g : Bool) (n d : ByteArray) (g2 : Bool) (n2 d2 : ByteArray) (w : World) {k : Nat} (h0 : 1 ≤ k) (hk : k ≤ 34359738368) (h1 : n.size ≤ k) (h2 : d.size ≤ k) (h3 : n2.size ≤ k) (h4 : d2.size ≤ k) :
    Calls Tryd.prog 15 #[agf g n d, agf g2 n2 d2] w (RetFr w (rv g n d * rv g2 n2 d2)) := by
  obtain ⟨ga, na, da, z1, e1, s1, s2, W1⟩ := whole_any g n d h0 (by omega) h1 h2
  obtain ⟨gb, nb_, db, z2, e2, s3, s4, W2⟩ := whole_any g2 n2 d2 h0 (by omega) h3 h4
  rw [e1, e2]
  exact fmul_in g n d g2 n2 d2 ga na da gb nb_ db w W1 W2 (by omega) (by omega) (by omega) (by omega)

set_option maxRecDepth 100000 in
set_option maxHeartbeats 1000000 in
theorem fsub_any (g : Bool) (n d : ByteArray) (g2 : Bool) (n2 d2 : ByteArray) (w : World) {k : Nat} (h0 : 1 ≤ k) (hk : k ≤ 34359738368) (h1 : n.size ≤ k) (h2 : d.size ≤ k) (h3 : n2.size ≤ k) (h4 : d2.size ≤ k) :
    Calls Tryd.prog 16 #[agf g n d, agf g2 n2 d2] w (RetFr w (rv g n d - rv g2 n2 d2)) := by
  have A1 := fun w => fadd_any g n d (!g2) n2 d2 w h0 hk h1 h2 h3 h4
  rw [rv_neg, ← Rat.sub_eq_add_neg] at A1
  unfold RetFr at *
  generalize rv g n d - rv g2 n2 d2 = q at *
  obtain ⟨g3, n3, d3, e, _⟩ := frv_open q
  have HE := Lib.hid e
  simp only [e] at A1 ⊢
  unfold agf at *
  have HM := Lib.hid A1
  clear A1 e
  have T0 := Two.new w g n d (!g2) n2 d2
  go_enter Tryd.func16, Tryd.ntmps16
  go_wp2_with fail
  refine (HM.out _).mono ?_; rintro e w' ⟨rfl, hb⟩
  have TT := T0.ext hb
  obtain ⟨_, _, _, F3⟩ := id TT
  obtain ⟨e0, e1, e2, f0, f1, f2⟩ := F3.c
  go_wp2_with fail
  refine bodyPost_ret (results_fc rfl rfl (F3.put _ _ _)) rfl ?_
  exact ⟨by first | rfl | exact congrArg _ HE.out | exact (congrArg _ HE.out).symm, bl_put TT.1 (by omega) _ _ _⟩

theorem results_fc2 {fn : Func} {p u : Tmp} {tmps : Array Value} {w : World} {b : Nat} {g : Bool} {n d : ByteArray} (h : fn.results = #[.cell p 24, .tmp u])
    (ht : tmps.getD p undef = .pointer (some ⟨b, 0, none⟩)) (hf : Fc w b g n d) : (results fn tmps).run Tryd.prog w = .ok (.tuple #[agf g n d, tmps.getD u undef]) w := by
  obtain ⟨c0, c1, c2, f0, f1, f2⟩ := hf.c
  have ht' : tmps[p]?.getD undef = .pointer (some ⟨b, 0, none⟩) := by simpa using ht
  simp [results, h, ht', go_sem, agf, c0, c1, c2]

def RetFrE (w : World) (v : Value) (c : Int) (e : Ending) (w' : World) : Prop := e = .returned (.tuple #[v, .int .i64 c]) ∧ Below w.heap.size w w'

set_option maxRecDepth 100000 in
set_option maxHeartbeats 1000000 in
theorem fdiv_zero (g : Bool) (n d : ByteArray) (g2 : Bool) (n2 d2 : ByteArray) (w : World) {k : Nat} (h0 : 1 ≤ k) (hk : k ≤ 34359738368) (h3 : n2.size ≤ k) (h4 : d2.size ≤ k) (hz : rv g2 n2 d2 = 0) :
    Calls Tryd.prog 19 #[agf g n d, agf g2 n2 d2] w (RetFrE w (agf false ⟨#[]⟩ ⟨#[]⟩) 3) := by
  have A1 := fun w => fcanon_any g2 n2 d2 w (by omega) (by omega)
  rw [hz] at A1
  unfold RetFr at A1
  simp only [frv_zero] at A1
  unfold agf at *
  have HM := Lib.hid A1
  clear A1 hz
  have T0 := Two.new w g n d g2 n2 d2
  go_enter Tryd.func19, Tryd.ntmps19
  go_wp2_with fail
  refine (HM.out _).mono ?_; rintro e w' ⟨rfl, hb⟩
  have TT := T0.ext hb
  obtain ⟨_, _, F2, F3⟩ := id TT
  obtain ⟨c0, c1, c2, x0, x1, x2⟩ := F2.c
  obtain ⟨e0, e1, e2, f0, f1, f2⟩ := F3.c
  have TT := TT.put2 false ⟨#[]⟩ ⟨#[1]⟩
  obtain ⟨_, _, F2, F3⟩ := id TT
  obtain ⟨c0, c1, c2, x0, x1, x2⟩ := F2.c
  obtain ⟨e0, e1, e2, f0, f1, f2⟩ := F3.c
  go_wp2_with fail
  refine bodyPost_ret (results_fc2 rfl rfl (F3.put _ _ _)) rfl ?_
  exact ⟨rfl, bl_put TT.1 (by omega) _ _ _⟩

set_option maxRecDepth 100000 in
set_option maxHeartbeats 1000000 in
theorem fdiv_any (g : Bool) (n d : ByteArray) (g2 : Bool) (n2 d2 : ByteArray) (w : World) {k : Nat} (h0 : 1 ≤ k) (hk : k ≤ 34359738368) (h1 : n.size ≤ k) (h2 : d.size ≤ k) (h3 : n2.size ≤ k) (h4 : d2.size ≤ k) (hz : rv g2 n2 d2 ≠ 0) :
    Calls Tryd.prog 19 #[agf g n d, agf g2 n2 d2] w (RetFrE w (frv (rv g n d / rv g2 n2 d2)) 0) := by
  have A1 := fun w => fcanon_any g2 n2 d2 w (by omega) (by omega)
  have hF : Fz (rv g2 n2 d2) k := Fr.fz ⟨_, _, _, rfl, rfl, h3, h4⟩ h0
  have hnz : (rv g2 n2 d2).num.natAbs ≠ 0 := by
    intro e
    exact hz (Rat.num_eq_zero.1 (by omega))
  unfold RetFr at A1
  obtain ⟨g3, n3, d3, e, en, ed, eg⟩ := frv_open (rv g2 n2 d2)
  simp only [e] at A1
  have hi := rv_inv (rv g2 n2 d2) hz
  rw [← en, ← ed, ← eg] at hi
  obtain ⟨_, _, _, e', _, s1, s2⟩ := hF.fr
  rw [e] at e'
  simp only [agf, Value.agg.injEq, Array.mk.injEq, List.cons.injEq, Value.bool.injEq, Value.string.injEq, and_true] at e'
  obtain ⟨rfl, rfl, rfl⟩ := e'
  have A2 := fun w => fmul_any g n d g3 d3 n3 w h0 hk h1 h2 s2 s1
  rw [hi, ← Rat.div_def] at A2
  have n1 := toList_ne n3 (by rw [en]; exact ns_pos_size hnz)
  have n2' := isEmpty_false n3 (by rw [en]; exact ns_pos_size hnz)
  clear hi s1 s2 hF en ed eg e hnz
  unfold RetFr at A2
  unfold RetFrE
  generalize rv g n d / rv g2 n2 d2 = q at *
  obtain ⟨g4, n4, d4, e, _⟩ := frv_open q
  have HE := Lib.hid e
  simp only [e] at A2 ⊢
  unfold agf at *
  have HM := Lib.hid A1
  have HP := Lib.hid A2
  clear A1 A2 hz e
  have T0 := Two.new w g n d g2 n2 d2
  go_enter Tryd.func19, Tryd.ntmps19
  go_wp2_with fail
  refine (HM.out _).mono ?_; rintro e w' ⟨rfl, hb⟩
  have TT := T0.ext hb
  obtain ⟨_, F1, F2, F3⟩ := id TT
  obtain ⟨c0, c1, c2, x0, x1, x2⟩ := F2.c
  have T1 := TT.put2 g3 n3 d3
  obtain ⟨_, F1', F2', F3'⟩ := id T1
  obtain ⟨p0, p1, p2, _⟩ := F1'.c
  obtain ⟨q0, q1, q2, _⟩ := F2'.c
  go_wp2_with fail
  refine (HP.out _).mono ?_; rintro e w'' ⟨rfl, hb⟩
  have TT := T1.ext hb
  obtain ⟨_, _, _, F3⟩ := id TT
  obtain ⟨e0, e1, e2, f0, f1, f2⟩ := F3.c
  go_wp2_with fail
  refine bodyPost_ret (results_fc2 rfl rfl (F3.put _ _ _)) rfl ?_
  exact ⟨by first | rfl | exact congrArg (fun v => Ending.returned (.tuple #[v, .int .i64 0])) HE.out, bl_put TT.1 (by omega) _ _ _⟩

set_option maxRecDepth 100000 in
set_option maxHeartbeats 1000000 in
theorem fcmp_any (g : Bool) (n d : ByteArray) (g2 : Bool) (n2 d2 : ByteArray) (w : World) {k : Nat} (h0 : 1 ≤ k) (hk : k ≤ 34359738368) (h1 : n.size ≤ k) (h2 : d.size ≤ k) (h3 : n2.size ≤ k) (h4 : d2.size ≤ k) :
    Calls Tryd.prog 20 #[agf g n d, agf g2 n2 d2] w fun e w' => e = .returned (.int .i64 (cmpR (rv g n d) (rv g2 n2 d2))) ∧ Below w.heap.size w w' := by
  have A1 := fun w => fsub_any g n d g2 n2 d2 w h0 hk h1 h2 h3 h4
  rw [cmpR_sub]
  unfold RetFr at A1
  generalize rv g n d - rv g2 n2 d2 = q at *
  obtain ⟨g3, n3, d3, e, en, ed, eg⟩ := frv_open q
  simp only [e] at A1
  unfold agf at *
  have HM := Lib.hid A1
  clear A1 e
  have key : ∀ c : Int, (if q.num = 0 then (0 : Int) else if q.num < 0 then -1 else 1) = c → Calls Tryd.prog 20 #[.agg #[.bool g, .string n, .string d], .agg #[.bool g2, .string n2, .string d2]] w fun e w' => e = .returned (.int .i64 c) ∧ Below w.heap.size w w' := by
    intro c hc
    by_cases hz : q.num = 0
    · rw [if_pos hz] at hc
      subst hc
      have z1 := toList_nil n3 (by rw [en, hz]; show (ns 0).size = 0; rw [ns_zero]; rfl)
      clear en ed eg hz
      go_enter Tryd.func20, Tryd.ntmps20
      go_wp2_with fail
      refine (HM.out _).mono ?_; rintro e w' ⟨rfl, hb⟩
      have hn := Fc.new' (w := w') (b := w'.heap.size) g3 n3 d3 rfl
      go_wp2_with fail
      go_ret
      exact ⟨rfl, (bl_new ((Below.refl _ w).alloc (Nat.le_refl _) _) (by simp) hb).alloc (by have := hb.size; simp at this; omega) _⟩
    · rw [if_neg hz] at hc
      have z1 := toList_ne n3 (by rw [en]; exact ns_pos_size (by omega))
      have z2 := isEmpty_false n3 (by rw [en]; exact ns_pos_size (by omega))
      by_cases hl : q.num < 0
      · rw [if_pos hl] at hc
        subst hc
        obtain rfl : g3 = true := by rw [eg]; simpa using hl
        clear en ed eg hz hl
        go_enter Tryd.func20, Tryd.ntmps20
        go_wp2_with fail
        refine (HM.out _).mono ?_; rintro e w' ⟨rfl, hb⟩
        go_wp2_with fail
        go_ret
        exact ⟨rfl, (bl_new ((Below.refl _ w).alloc (Nat.le_refl _) _) (by simp) hb).alloc (by have := hb.size; simp at this; omega) _⟩
      · rw [if_neg hl] at hc
        subst hc
        obtain rfl : g3 = false := by rw [eg]; simpa using hl
        clear en ed eg hz hl
        go_enter Tryd.func20, Tryd.ntmps20
        go_wp2_with fail
        refine (HM.out _).mono ?_; rintro e w' ⟨rfl, hb⟩
        go_wp2_with fail
        go_ret
        exact ⟨rfl, (bl_new ((Below.refl _ w).alloc (Nat.le_refl _) _) (by simp) hb).alloc (by have := hb.size; simp at this; omega) _⟩
  exact key _ rfl
end Go.Proofs.YtlloghbaggdhnaaDoor
