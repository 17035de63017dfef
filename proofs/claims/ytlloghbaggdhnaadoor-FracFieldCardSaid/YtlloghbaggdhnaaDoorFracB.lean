/- Walks: frac.Canon, frac.whole, frac.Mul, frac.Add. Conditions: strings within 2^36 bytes. -/
import Derived.Test.YtlloghbaggdhnaaDoorFracA
import Derived.BigRegion
import Derived.Deep.DeepCutAuto
import Derived.Deep.RegionHeld3
set_option linter.unusedVariables false
set_option linter.unusedSimpArgs false
namespace Go.Proofs.YtlloghbaggdhnaaDoor
open Go Go.RowKit
open Go.IntWalk (wrap64_in)

/-- A call that gives one value and leaves what was there. -/
def Gives (f : FuncId) (args : Array Value) (v : Value) : Prop := ∀ w, Calls Tryd.prog f args w fun e w' => e = .returned v ∧ Below w.heap.size w w'
/-- A fraction's fields of a rational. -/
theorem frv_open (q : Rat) : ∃ g n d, frv q = .agg #[.bool g, .string n, .string d] ∧ n = ns q.num.natAbs ∧ d = ns q.den ∧ g = decide (q.num < 0) := ⟨_, _, _, rfl, rfl, rfl, rfl⟩

set_option maxRecDepth 100000 in
set_option maxHeartbeats 1000000 in
theorem fcanon_any (g : Bool) (n d : ByteArray) (w : World) (hn : n.size ≤ 137438953472) (hd : d.size ≤ 137438953472) :
    Calls Tryd.prog 17 #[agf g n d] w (RetFr w (rv g n d)) := by
  have G1 := fun w => fmake_any g n d w hn hd
  unfold RetFr at *
  obtain ⟨g', n', d', e, _⟩ := frv_open (rv g n d)
  have HE := Lib.hid e
  simp only [e] at G1 ⊢
  unfold agf
  have HG := Lib.hid G1
  clear G1 e
  have hF := Lib.hid (fun w => Fc.new w g n d)
  go_enter Tryd.func17, Tryd.ntmps17
  go_wp2_with fail
  refine (HG.out _).mono ?_; rintro e w1 ⟨rfl, hb1⟩
  have hR := (Fc.new' (w := w.alloc (.cells #[.bool g, .string n, .string d] 24)) (b := w.heap.size + 1) false ⟨#[]⟩ ⟨#[]⟩ (by simp)).ext hb1
  obtain ⟨c0, c1, c2, f0, f1, f2⟩ := hR.c
  go_wp2_with fail
  refine bodyPost_ret (results_fc rfl rfl (hR.put _ _ _)) rfl ?_
  exact ⟨by first | rfl | exact congrArg _ HE.out | exact (congrArg _ HE.out).symm, bl_put (bl_new ((Below.refl _ w).alloc (Nat.le_refl _) _) (by simp) hb1) (by simp) _ _ _⟩

set_option maxRecDepth 100000 in
set_option maxHeartbeats 1000000 in
theorem whole_yes (g : Bool) (n d : ByteArray) (hd : d.size ≤ 137438953472) (h : vn d ≠ 0) : Gives 68 #[agf g n d] (agf g n d) := by
  intro w
  unfold agf
  have T2 := Lib.hid (fun w => trim_any d w (by unfold maxLen; omega))
  have n3 := toList_ne (ns (vn d)) (ns_pos_size h)
  have n4 := isEmpty_false (ns (vn d)) (ns_pos_size h)
  generalize vn d = y at *
  obtain ⟨a0, a1, a2, b0, b1, b2⟩ := ((Fc.new w g n d).alloc (.cells #[.bool false, .string ⟨#[]⟩, .string ⟨#[]⟩] 24)).c
  have hR := Fc.new' (w := w.alloc (.cells #[.bool g, .string n, .string d] 24)) (b := w.heap.size + 1) false ⟨#[]⟩ ⟨#[]⟩ (by simp)
  obtain ⟨c0, c1, c2, f0, f1, f2⟩ := hR.c
  go_enter Tryd.func68, Tryd.ntmps68
  go_wp2_with fail
  refine (T2.out _).mono ?_; rintro e w' ⟨rfl, rfl⟩
  go_wp2_with fail
  refine bodyPost_ret (results_fc rfl rfl (Fc.new' (w := w.alloc (.cells #[.bool g, .string n, .string d] 24)) (b := w.heap.size + 1) g n d (by simp))) rfl ?_
  exact ⟨rfl, ((Below.refl _ w).alloc (Nat.le_refl _) _).alloc (by simp) _⟩

set_option maxRecDepth 100000 in
set_option maxHeartbeats 1000000 in
theorem whole_no (g : Bool) (n d : ByteArray) (hd : d.size ≤ 137438953472) (h : vn d = 0) : Gives 68 #[agf g n d] (agf false ⟨#[]⟩ ⟨#[1]⟩) := by
  intro w
  unfold agf
  have T2 := Lib.hid (fun w => trim_any d w (by unfold maxLen; omega))
  have n1 := toList_nil (ns 0) (by rw [ns_zero]; rfl)
  rw [h] at T2
  have HZ := Lib.hid (fun w => fof_zero w)
  clear h
  have hR := Fc.new' (w := w.alloc (.cells #[.bool g, .string n, .string d] 24)) (b := w.heap.size + 1) false ⟨#[]⟩ ⟨#[]⟩ (by simp)
  obtain ⟨a0, a1, a2, b0, b1, b2⟩ := ((Fc.new w g n d).alloc (.cells #[.bool false, .string ⟨#[]⟩, .string ⟨#[]⟩] 24)).c
  go_enter Tryd.func68, Tryd.ntmps68
  go_wp2_with fail
  refine (T2.out _).mono ?_; rintro e w' ⟨rfl, rfl⟩
  go_wp2_with fail
  refine (HZ.out _).mono ?_; rintro e w1 ⟨rfl, hb1⟩
  have hR := hR.ext hb1
  obtain ⟨c0, c1, c2, f0, f1, f2⟩ := hR.c
  go_wp2_with fail
  refine bodyPost_ret (results_fc rfl rfl (hR.put _ _ _)) rfl ?_
  exact ⟨rfl, bl_put (bl_new ((Below.refl _ w).alloc (Nat.le_refl _) _) (by simp) hb1) (by simp) _ _ _⟩

theorem whole_any (g : Bool) (n d : ByteArray) {k : Nat} (hk : 1 ≤ k) (hk2 : k ≤ 137438953472) (hn : n.size ≤ k) (hd : d.size ≤ k) :
    ∃ g' n' d', vn d' ≠ 0 ∧ rv g n d = rv g' n' d' ∧ n'.size ≤ k ∧ d'.size ≤ k ∧ Gives 68 #[agf g n d] (agf g' n' d') := by
  by_cases h : vn d = 0
  · refine ⟨false, ⟨#[]⟩, ⟨#[1]⟩, by decide, ?_, by show 0 ≤ k; omega, hk, whole_no g n d (by omega) h⟩
    rw [rv_zero (.inr h), rv_zero (.inl vn_nil)]
  · exact ⟨g, n, d, h, rfl, hn, hd, whole_yes g n d (by omega) h⟩

/-- Two fractions in the call's first two blocks, and the result behind them. -/
def Two (w wx : World) (g : Bool) (n d : ByteArray) (g2 : Bool) (n2 d2 : ByteArray) : Prop :=
  Below w.heap.size w wx ∧ Fc wx w.heap.size g n d ∧ Fc wx (w.heap.size + 1) g2 n2 d2 ∧ Fc wx (w.heap.size + 1 + 1) false ⟨#[]⟩ ⟨#[]⟩
theorem Two.ext {w wx w' : World} {g : Bool} {n d : ByteArray} {g2 : Bool} {n2 d2 : ByteArray} (h : Two w wx g n d g2 n2 d2) (hb : Below wx.heap.size wx w') : Two w w' g n d g2 n2 d2 :=
  ⟨h.1.trans (hb.mono h.1.size), h.2.1.ext hb, h.2.2.1.ext hb, h.2.2.2.ext hb⟩
theorem Two.drew {w wx : World} {g : Bool} {n d : ByteArray} {g2 : Bool} {n2 d2 : ByteArray} (h : Two w wx g n d g2 n2 d2) : Two w wx.drew g n d g2 n2 d2 := ⟨h.1.drew, h.2⟩
theorem Two.new (w : World) (g : Bool) (n d : ByteArray) (g2 : Bool) (n2 d2 : ByteArray) :
    Two w (((w.alloc (.cells #[.bool g, .string n, .string d] 24)).alloc (.cells #[.bool g2, .string n2, .string d2] 24)).alloc (.cells #[.bool false, .string ⟨#[]⟩, .string ⟨#[]⟩] 24)) g n d g2 n2 d2 :=
  ⟨(((Below.refl _ w).alloc (Nat.le_refl _) _).alloc (by simp) _).alloc (by simp <;> omega) _, ((Fc.new w g n d).alloc _).alloc _, (Fc.new' g2 n2 d2 (by simp)).alloc _, Fc.new' _ _ _ (by simp)⟩
theorem Two.put1 {w wx : World} {g : Bool} {n d : ByteArray} {g2 : Bool} {n2 d2 : ByteArray} (h : Two w wx g n d g2 n2 d2) (g' : Bool) (n' d' : ByteArray) :
    Two w (((wx.setCell ⟨w.heap.size, 0, none⟩ (.bool g')).setCell ⟨w.heap.size, 1, none⟩ (.string n')).setCell ⟨w.heap.size, 2, none⟩ (.string d')) g' n' d' g2 n2 d2 :=
  ⟨bl_put h.1 (Nat.le_refl _) _ _ _, h.2.1.put _ _ _, ((h.2.2.1.setOther (by simp <;> omega) _).setOther (by simp <;> omega) _).setOther (by simp <;> omega) _, ((h.2.2.2.setOther (by simp <;> omega) _).setOther (by simp <;> omega) _).setOther (by simp <;> omega) _⟩
theorem Two.put2 {w wx : World} {g : Bool} {n d : ByteArray} {g2 : Bool} {n2 d2 : ByteArray} (h : Two w wx g n d g2 n2 d2) (g' : Bool) (n' d' : ByteArray) :
    Two w (((wx.setCell ⟨w.heap.size + 1, 0, none⟩ (.bool g')).setCell ⟨w.heap.size + 1, 1, none⟩ (.string n')).setCell ⟨w.heap.size + 1, 2, none⟩ (.string d')) g n d g' n' d' :=
  ⟨bl_put h.1 (by omega) _ _ _, ((h.2.1.setOther (by simp <;> omega) _).setOther (by simp <;> omega) _).setOther (by simp <;> omega) _, h.2.2.1.put _ _ _, ((h.2.2.2.setOther (by simp <;> omega) _).setOther (by simp <;> omega) _).setOther (by simp <;> omega) _⟩

/-- The same, whatever the result holds. -/
def TwoE (w wx : World) (g : Bool) (n d : ByteArray) (g2 : Bool) (n2 d2 : ByteArray) : Prop :=
  Below w.heap.size w wx ∧ Fc wx w.heap.size g n d ∧ Fc wx (w.heap.size + 1) g2 n2 d2 ∧ ∃ g3 n3 d3, Fc wx (w.heap.size + 1 + 1) g3 n3 d3
section
variable {w wx w' : World} {g : Bool} {n d : ByteArray} {g2 : Bool} {n2 d2 : ByteArray}
theorem Two.e (h : Two w wx g n d g2 n2 d2) : TwoE w wx g n d g2 n2 d2 := ⟨h.1, h.2.1, h.2.2.1, _, _, _, h.2.2.2⟩
theorem TwoE.ext (h : TwoE w wx g n d g2 n2 d2) (hb : Below wx.heap.size wx w') : TwoE w w' g n d g2 n2 d2 := by
  obtain ⟨h1, h2, h3, g3, n3, d3, h4⟩ := h
  exact ⟨h1.trans (hb.mono h1.size), h2.ext hb, h3.ext hb, g3, n3, d3, h4.ext hb⟩
theorem TwoE.drew (h : TwoE w wx g n d g2 n2 d2) : TwoE w wx.drew g n d g2 n2 d2 := ⟨h.1.drew, h.2⟩
theorem TwoE.put3 (h : TwoE w wx g n d g2 n2 d2) (g' : Bool) (n' d' : ByteArray) :
    TwoE w (((wx.setCell ⟨w.heap.size + 1 + 1, 0, none⟩ (.bool g')).setCell ⟨w.heap.size + 1 + 1, 1, none⟩ (.string n')).setCell ⟨w.heap.size + 1 + 1, 2, none⟩ (.string d')) g n d g2 n2 d2 := by
  obtain ⟨h1, h2, h3, g3, n3, d3, h4⟩ := h
  exact ⟨bl_put h1 (by omega) _ _ _, ((h2.setOther (by simp <;> omega) _).setOther (by simp <;> omega) _).setOther (by simp <;> omega) _, ((h3.setOther (by simp <;> omega) _).setOther (by simp <;> omega) _).setOther (by simp <;> omega) _, _, _, _, h4.put _ _ _⟩
/-- With the cells that are read. -/
theorem TwoE.s (h : TwoE w wx g n d g2 n2 d2) : TwoE w wx g n d g2 n2 d2 ∧ wx.cell? ⟨w.heap.size, 0, none⟩ = some (.bool g) ∧ wx.cell? ⟨w.heap.size, 1, none⟩ = some (.string n) ∧ wx.cell? ⟨w.heap.size, 2, none⟩ = some (.string d) ∧
    wx.cell? ⟨w.heap.size + 1, 0, none⟩ = some (.bool g2) ∧ wx.cell? ⟨w.heap.size + 1, 1, none⟩ = some (.string n2) ∧ wx.cell? ⟨w.heap.size + 1, 2, none⟩ = some (.string d2) := by
  obtain ⟨a0, a1, a2, b0, b1, b2⟩ := h.2.1.c
  obtain ⟨c0, c1, c2, x0, x1, x2⟩ := h.2.2.1.c
  exact ⟨h, a0, a1, a2, c0, c1, c2⟩
end

set_option maxRecDepth 100000 in
set_option maxHeartbeats 1000000 in
theorem fmul_in (g : Bool) (n d : ByteArray) (g2 : Bool) (n2 d2 : ByteArray) (ga : Bool) (na da : ByteArray) (gb : Bool) (nb_ db : ByteArray) (w : World)
    (W1 : Gives 68 #[agf g n d] (agf ga na da)) (W2 : Gives 68 #[agf g2 n2 d2] (agf gb nb_ db))
    (k1 : na.size ≤ 68719476736) (k2 : da.size ≤ 68719476736) (k3 : nb_.size ≤ 68719476736) (k4 : db.size ≤ 68719476736) :
    Calls Tryd.prog 15 #[agf g n d, agf g2 n2 d2] w (RetFr w (rv ga na da * rv gb nb_ db)) := by
  have e : rv ga na da * rv gb nb_ db = rv (ga != gb) (ns (vn na * vn nb_)) (ns (vn da * vn db)) := by rw [rv_mul, rv_ns]
  have M1 := Lib.hid (fun w => mul_any na nb_ w (by omega) (by omega))
  have M2 := Lib.hid (fun w => mul_any da db w (by omega) (by omega))
  have s1 := ((Sz.of na).mul (Sz.of nb_)).str
  have s2 := ((Sz.of da).mul (Sz.of db)).str
  have MK := fun w => fmake_any (ga != gb) (ns (vn na * vn nb_)) (ns (vn da * vn db)) w (by omega) (by omega)
  rw [e]
  unfold RetFr at *
  obtain ⟨g3, n3, d3, e, _⟩ := frv_open (rv (ga != gb) (ns (vn na * vn nb_)) (ns (vn da * vn db)))
  have HE := Lib.hid e
  simp only [e] at MK ⊢
  have HM := Lib.hid MK
  clear MK e s1 s2 k1 k2 k3 k4
  generalize vn na * vn nb_ = N at *
  generalize vn da * vn db = D at *
  unfold agf Gives at *
  have G1 := Lib.hid W1
  have G2 := Lib.hid W2
  have T0 := Two.new w g n d g2 n2 d2
  clear W1 W2
  go_enter Tryd.func15, Tryd.ntmps15
  go_upto_region 5 with fail
  generalize (((w.alloc _).alloc _).alloc _ : World) = W0 at *
  obtain ⟨_, F1, F2, F3⟩ := id T0
  obtain ⟨a0, a1, a2, b0, b1, b2⟩ := F1.c
  obtain ⟨c0, c1, c2, x0, x1, x2⟩ := F2.c
  obtain ⟨e0, e1, e2, f0, f1, f2⟩ := F3.c
  go_cut [] (fun wx => Two w wx ga na da gb nb_ db)
  case first =>
    go_region_with (go_at_call 68; (first | (with_reducible refine (G1.out _).mono ?_) | (with_reducible refine (G2.out _).mono ?_)); rintro e w' ⟨rfl, hb⟩; have TT := Two.ext (by (repeat first | with_reducible assumption | with_reducible apply Two.drew)) hb; obtain ⟨_, F1, F2, F3⟩ := id TT; obtain ⟨a0, a1, a2, b0, b1, b2⟩ := F1.c; obtain ⟨c0, c1, c2, x0, x1, x2⟩ := F2.c; obtain ⟨e0, e1, e2, f0, f1, f2⟩ := F3.c)
    all_goals (go_wp2_with fail; go_meet)
    all_goals (repeat first | with_reducible assumption | with_reducible apply Two.drew | with_reducible apply Two.put2 | with_reducible apply Two.put1)
  case rest =>
  clear T0 F1 F2 F3 a0 a1 a2 b0 b1 b2 c0 c1 c2 x0 x1 x2 e0 e1 e2 f0 f1 f2 G1 G2
  obtain ⟨_, F1, F2, F3⟩ := id hcut
  obtain ⟨a0, a1, a2, b0, b1, b2⟩ := F1.c
  obtain ⟨c0, c1, c2, x0, x1, x2⟩ := F2.c
  obtain ⟨e0, e1, e2, f0, f1, f2⟩ := F3.c
  have hcut := hcut.e
  go_upto_region 9 with fail
  go_region_held3 (fun wx => TwoE w wx ga na da gb nb_ db ∧ wx.cell? ⟨w.heap.size, 0, none⟩ = some (.bool ga) ∧ wx.cell? ⟨w.heap.size, 1, none⟩ = some (.string na) ∧ wx.cell? ⟨w.heap.size, 2, none⟩ = some (.string da) ∧
    wx.cell? ⟨w.heap.size + 1, 0, none⟩ = some (.bool gb) ∧ wx.cell? ⟨w.heap.size + 1, 1, none⟩ = some (.string nb_) ∧ wx.cell? ⟨w.heap.size + 1, 2, none⟩ = some (.string db))
    (first | exact TwoE.s (by with_reducible assumption) | exact TwoE.s (TwoE.drew (by with_reducible assumption)) | exact TwoE.s (TwoE.put3 (by with_reducible assumption) _ _ _))
    (first
    | (go_at_call 69; (first | (with_reducible refine (M1.out _).mono ?_) | (with_reducible refine (M2.out _).mono ?_)); rintro e w' ⟨rfl, hb⟩; have TT := TwoE.ext (And.left (by with_reducible assumption)) hb)
    | (go_at_call 70; refine (HM.out _).mono ?_; rintro e w' ⟨rfl, hb⟩; have TT := TwoE.ext (And.left (by with_reducible assumption)) hb; obtain ⟨_, _, _, g9, n9, d9, F3⟩ := id TT; obtain ⟨e0, e1, e2, f0, f1, f2⟩ := F3.c))
  all_goals (go_wp2_with fail; refine bodyPost_ret (results_fc rfl rfl (F3.put _ _ _)) rfl ?_)
  all_goals exact ⟨by first | rfl | exact congrArg _ HE.out | exact (congrArg _ HE.out).symm, bl_put TT.1 (by omega) _ _ _⟩
end Go.Proofs.YtlloghbaggdhnaaDoor
