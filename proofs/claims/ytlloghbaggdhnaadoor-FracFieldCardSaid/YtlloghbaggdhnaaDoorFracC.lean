/- Walk: frac.Add. Conditions: strings within 2^36 bytes. -/
import Derived.Test.YtlloghbaggdhnaaDoorFracB
set_option linter.unusedVariables false
set_option linter.unusedSimpArgs false
namespace Go.Proofs.YtlloghbaggdhnaaDoor
open Go Go.RowKit
open Go.IntWalk (wrap64_in)

theorem toList_neq {a b : ByteArray} (h : ¬ a = b) : ¬ a.toList = b.toList := by
  rw [toList_bytes, toList_bytes]
  exact fun e => h (by cases a; cases b; simp at e; rw [e])

set_option maxRecDepth 100000 in
set_option maxHeartbeats 2000000 in
theorem fadd_in (g : Bool) (n d : ByteArray) (g2 : Bool) (n2 d2 : ByteArray) (ga : Bool) (na da : ByteArray) (gb : Bool) (nb_ db : ByteArray) (w : World)
    (W1 : Gives 68 #[agf g n d] (agf ga na da)) (W2 : Gives 68 #[agf g2 n2 d2] (agf gb nb_ db)) (hda : vn da ≠ 0) (hdb : vn db ≠ 0)
    (k1 : na.size ≤ 34359738368) (k2 : da.size ≤ 34359738368) (k3 : nb_.size ≤ 34359738368) (k4 : db.size ≤ 34359738368) :
    Calls Tryd.prog 14 #[agf g n d, agf g2 n2 d2] w (RetFr w (rv ga na da + rv gb nb_ db)) := by
  have M1 := Lib.hid (fun w => mul_any na db w (by omega) (by omega))
  have M2 := Lib.hid (fun w => mul_any nb_ da w (by omega) (by omega))
  have M3 := Lib.hid (fun w => mul_any da db w (by omega) (by omega))
  have s1 := ((Sz.of na).mul (Sz.of db)).str
  have s2 := ((Sz.of nb_).mul (Sz.of da)).str
  have s3 := ((Sz.of da).mul (Sz.of db)).str
  have HC := Lib.hid (rv_add_cross ga gb na nb_ da db hda hdb)
  have HS : Hid (da = db → rv ga na da + rv gb nb_ db = mkRat (sgi ga (vn na) + sgi gb (vn nb_)) (vn da)) := fun e => by subst e; exact rv_add_same ga gb na nb_ da
  have HK := Lib.hid (And.intro (And.intro s1 s2) (And.intro s3 (And.intro (And.intro k1 k2) (And.intro k3 k4))))
  clear hda hdb s1 s2 s3 k1 k2 k3 k4
  generalize hq : rv ga na da + rv gb nb_ db = q at *
  clear hq
  unfold agf Gives at *
  have G1 := Lib.hid W1
  have G2 := Lib.hid W2
  have T0 := Two.new w g n d g2 n2 d2
  clear W1 W2
  go_enter Tryd.func14, Tryd.ntmps14
  go_upto_region 12 with fail
  generalize (((w.alloc _).alloc _).alloc _ : World) = W0 at *
  obtain ⟨_, F1, F2, F3⟩ := id T0
  obtain ⟨a0, a1, a2, b0, b1, b2⟩ := F1.c
  obtain ⟨c0, c1, c2, x0, x1, x2⟩ := F2.c
  obtain ⟨e0, e1, e2, f0, f1, f2⟩ := F3.c
  go_cut [] (fun wx => Two w wx ga na da gb nb_ db)
  case first =>
    go_region_with (go_at_call 68; (first | (with_reducible refine (G1.out _).mono ?_) | (with_reducible refine (G2.out _).mono ?_)); rintro e w' ⟨rfl, hb⟩; have TT := Two.ext (by (repeat first | with_reducible assumption | with_reducible apply Two.drew)) hb; obtain ⟨_, F1, F2, F3⟩ := id TT; obtain ⟨a0, a1, a2, b0, b1, b2⟩ := F1.c; obtain ⟨c0, c1, c2, x0, x1, x2⟩ := F2.c; obtain ⟨e0, e1, e2, f0, f1, f2⟩ := F3.c)
    all_goals (go_wp2_with fail; go_meet)
    all_goals (repeat first | with_reducible assumption | with_reducible apply Two.drew | with_reducible apply Two.put2 | with_reducible apply Two.put1)
  case rest =>
  clear T0 F1 F2 F3 a0 a1 a2 b0 b1 b2 c0 c1 c2 x0 x1 x2 e0 e1 e2 f0 f1 f2 G1 G2
  have hE := hcut.e
  clear hcut
  obtain ⟨_, a0, a1, a2, c0, c1, c2⟩ := hE.s
  go_upto_region 16 with fail
  go_region_held3 (fun wx => TwoE w wx ga na da gb nb_ db ∧ wx.cell? ⟨w.heap.size, 0, none⟩ = some (.bool ga) ∧ wx.cell? ⟨w.heap.size, 1, none⟩ = some (.string na) ∧ wx.cell? ⟨w.heap.size, 2, none⟩ = some (.string da) ∧
    wx.cell? ⟨w.heap.size + 1, 0, none⟩ = some (.bool gb) ∧ wx.cell? ⟨w.heap.size + 1, 1, none⟩ = some (.string nb_) ∧ wx.cell? ⟨w.heap.size + 1, 2, none⟩ = some (.string db))
    (first | exact TwoE.s (by with_reducible assumption) | exact TwoE.s (TwoE.drew (by with_reducible assumption))) (fail)
  go_upto_if 26 with fail
  go_cut [5, 6, 7] (fun s5 s6 s7 wx => ∃ X Y D : ByteArray, (s5 = .string X ∧ s6 = .string Y ∧ s7 = .string D) ∧ TwoE w wx ga na da gb nb_ db ∧ Hid (q = mkRat (sgi ga (vn X) + sgi gb (vn Y)) (vn D) ∧ X.size ≤ 68719476736 ∧ Y.size ≤ 68719476736 ∧ D.size ≤ 68719476736))
  case first =>
    by_cases hde : da = db
    · have hq := HS.out hde
      have HQ : Hid (q = mkRat (sgi ga (vn na) + sgi gb (vn nb_)) (vn da) ∧ na.size ≤ 68719476736 ∧ nb_.size ≤ 68719476736 ∧ da.size ≤ 68719476736) := by
        have := HK.out
        exact ⟨hq, by omega, by omega, by omega⟩
      clear hq HS HC HK M1 M2 M3
      subst hde
      rw [show (da.toList == da.toList) = true by simp]
      go_wp2_with fail
      go_meet
      exact ⟨_, _, _, ⟨rfl, rfl, rfl⟩, TwoE.drew hE, HQ⟩
    · have z2 := toList_neq hde
      have z1 : (da.toList == db.toList) = false := by simpa using z2
      have HQ : Hid (q = mkRat (sgi ga (vn (ns (vn na * vn db))) + sgi gb (vn (ns (vn nb_ * vn da)))) (vn (ns (vn da * vn db))) ∧ (ns (vn na * vn db)).size ≤ 68719476736 ∧ (ns (vn nb_ * vn da)).size ≤ 68719476736 ∧ (ns (vn da * vn db)).size ≤ 68719476736) := by
        have := HK.out
        exact ⟨by rw [vn_ns, vn_ns, vn_ns]; exact HC.out, by omega, by omega, by omega⟩
      clear hde HS HC HK
      generalize vn na * vn db = X at *
      generalize vn nb_ * vn da = Y at *
      generalize vn da * vn db = D at *
      rw [z1]
      go_upto_region 27 with fail
      go_region_held3 (fun wx => TwoE w wx ga na da gb nb_ db ∧ wx.cell? ⟨w.heap.size, 0, none⟩ = some (.bool ga) ∧ wx.cell? ⟨w.heap.size, 1, none⟩ = some (.string na) ∧ wx.cell? ⟨w.heap.size, 2, none⟩ = some (.string da) ∧
        wx.cell? ⟨w.heap.size + 1, 0, none⟩ = some (.bool gb) ∧ wx.cell? ⟨w.heap.size + 1, 1, none⟩ = some (.string nb_) ∧ wx.cell? ⟨w.heap.size + 1, 2, none⟩ = some (.string db))
        (first | exact TwoE.s (by with_reducible assumption) | exact TwoE.s (TwoE.drew (by with_reducible assumption)) | exact TwoE.s (TwoE.drew (TwoE.drew (by with_reducible assumption))))
        (first | (go_at_call 69; (first | (with_reducible refine (M1.out _).mono ?_) | (with_reducible refine (M2.out _).mono ?_) | (with_reducible refine (M3.out _).mono ?_)); rintro e w' ⟨rfl, hb⟩; have TT := TwoE.ext (And.left (by with_reducible assumption)) hb))
      all_goals (go_wp2_with fail; go_meet)
      all_goals exact ⟨_, _, _, ⟨rfl, rfl, rfl⟩, TT, HQ⟩
  case rest =>
  clear hE a0 a1 a2 c0 c1 c2 M1 M2 M3 HS HC HK
  obtain ⟨X, Y, D, ⟨rfl, rfl, rfl⟩, hE, HX⟩ := hcut
  obtain ⟨_, a0, a1, a2, c0, c1, c2⟩ := hE.s
  obtain ⟨hq, z1, z2, z3⟩ := HX.out
  clear HX
  by_cases hg : ga = gb
  · subst hg
    have A1 := Lib.hid (fun w => add_any X Y w (by omega) (by omega))
    have s1 := ((Sz.of X).up (Nat.le_max_left X.size Y.size)).add ((Sz.of Y).up (Nat.le_max_right X.size Y.size)) |>.str
    rw [sgi_add_same, ← vn_ns (vn X + vn Y)] at hq
    change q = rv ga (ns (vn X + vn Y)) D at hq
    · have hms : max X.size Y.size ≤ 68719476736 := by omega
      have MK := fun w => fmake_any ga (ns (vn X + vn Y)) D w (by omega) (by omega)
      unfold RetFr at *
      rw [← hq] at MK
      obtain ⟨g3, n3, d3, e, _⟩ := frv_open q
      have HE := Lib.hid e
      simp only [e] at MK ⊢
      have HM := Lib.hid MK
      clear MK e hq
      clear s1 hms z1 z2 z3
      generalize vn X + vn Y = N at *
      have zg : (ga == ga) = true := by simp
      go_upto_region 47 with fail
      go_region_held3 (fun wx => TwoE w wx ga na da ga nb_ db ∧ wx.cell? ⟨w.heap.size, 0, none⟩ = some (.bool ga) ∧ wx.cell? ⟨w.heap.size, 1, none⟩ = some (.string na) ∧ wx.cell? ⟨w.heap.size, 2, none⟩ = some (.string da) ∧
        wx.cell? ⟨w.heap.size + 1, 0, none⟩ = some (.bool ga) ∧ wx.cell? ⟨w.heap.size + 1, 1, none⟩ = some (.string nb_) ∧ wx.cell? ⟨w.heap.size + 1, 2, none⟩ = some (.string db))
        (first | exact TwoE.s (by with_reducible assumption) | exact TwoE.s (TwoE.drew (by with_reducible assumption)) | exact TwoE.s (TwoE.put3 (by with_reducible assumption) _ _ _))
        (first
        | (go_at_call 71; refine (A1.out _).mono ?_; rintro e w' ⟨rfl, hb⟩; have TT := TwoE.ext (And.left (by with_reducible assumption)) hb)
        | (go_at_call 70; refine (HM.out _).mono ?_; rintro e w' ⟨rfl, hb⟩; have TT := TwoE.ext (And.left (by with_reducible assumption)) hb; obtain ⟨_, _, _, g9, n9, d9, F3⟩ := id TT; obtain ⟨e0, e1, e2, f0, f1, f2⟩ := F3.c))
      all_goals (go_wp2_with fail; refine bodyPost_ret (results_fc rfl rfl (F3.put _ _ _)) rfl ?_)
      all_goals exact ⟨by first | rfl | exact congrArg _ HE.out | exact (congrArg _ HE.out).symm, bl_put TT.1 (by omega) _ _ _⟩
  · have zg : (ga == gb) = false := by simpa using hg
    by_cases hxy : vn Y ≤ vn X
    · have S1 := Lib.hid (fun w => sub_yes X Y w (by omega) (by omega) hxy)
      have s1 := ((Sz.of X).le (Nat.sub_le (vn X) (vn Y))).str
      rw [sgi_add_ge ga gb hg _ _ hxy, ← vn_ns (vn X - vn Y)] at hq
      change q = rv ga (ns (vn X - vn Y)) D at hq
      have MK := fun w => fmake_any ga (ns (vn X - vn Y)) D w (by omega) (by omega)
      unfold RetFr at *
      rw [← hq] at MK
      obtain ⟨g3, n3, d3, e, _⟩ := frv_open q
      have HE := Lib.hid e
      simp only [e] at MK ⊢
      have HM := Lib.hid MK
      clear MK e hq
      clear s1 z1 z2 z3 hxy
      generalize vn X - vn Y = N at *
      go_wp2_with fail
      refine (S1.out _).mono ?_; rintro e w' ⟨rfl, hb⟩
      have TT := TwoE.ext (by repeat first | with_reducible assumption | with_reducible apply TwoE.drew) hb
      obtain ⟨_, a0, a1, a2, c0, c1, c2⟩ := TT.s
      go_wp2_with fail
      refine (HM.out _).mono ?_; rintro e w'' ⟨rfl, hb⟩
      have TT := TwoE.ext (by repeat first | with_reducible assumption | with_reducible apply TwoE.drew) hb
      obtain ⟨_, _, _, g9, n9, d9, F3⟩ := id TT
      obtain ⟨e0, e1, e2, f0, f1, f2⟩ := F3.c
      go_wp2_with fail
      refine bodyPost_ret (results_fc rfl rfl (F3.put _ _ _)) rfl ?_
      exact ⟨by first | rfl | exact congrArg _ HE.out | exact (congrArg _ HE.out).symm, bl_put TT.1 (by omega) _ _ _⟩
    · have S1 := Lib.hid (fun w => sub_no X Y w (by unfold maxLen; omega) (by unfold maxLen; omega) (by omega))
      have S2 := Lib.hid (fun w => sub_yes Y X w (by omega) (by omega) (by omega))
      have s1 := ((Sz.of Y).le (Nat.sub_le (vn Y) (vn X))).str
      rw [sgi_add_lt ga gb hg _ _ (by omega), ← vn_ns (vn Y - vn X)] at hq
      change q = rv gb (ns (vn Y - vn X)) D at hq
      have MK := fun w => fmake_any gb (ns (vn Y - vn X)) D w (by omega) (by omega)
      unfold RetFr at *
      rw [← hq] at MK
      obtain ⟨g3, n3, d3, e, _⟩ := frv_open q
      have HE := Lib.hid e
      simp only [e] at MK ⊢
      have HM := Lib.hid MK
      clear MK e hq
      clear s1 z1 z2 z3 hxy
      generalize vn Y - vn X = N at *
      go_wp2_with fail
      refine (S1.out _).mono ?_; rintro e w' ⟨rfl, hb⟩
      have TT := TwoE.ext (by repeat first | with_reducible assumption | with_reducible apply TwoE.drew) hb
      obtain ⟨_, a0, a1, a2, c0, c1, c2⟩ := TT.s
      go_wp2_with fail
      refine (S2.out _).mono ?_; rintro e w'' ⟨rfl, hb⟩
      have TT := TwoE.ext (by repeat first | with_reducible assumption | with_reducible apply TwoE.drew) hb
      obtain ⟨_, a0, a1, a2, c0, c1, c2⟩ := TT.s
      go_wp2_with fail
      refine (HM.out _).mono ?_; rintro e w''' ⟨rfl, hb⟩
      have TT := TwoE.ext (by repeat first | with_reducible assumption | with_reducible apply TwoE.drew) hb
      obtain ⟨_, _, _, g9, n9, d9, F3⟩ := id TT
      obtain ⟨e0, e1, e2, f0, f1, f2⟩ := F3.c
      go_wp2_with fail
      refine bodyPost_ret (results_fc rfl rfl (F3.put _ _ _)) rfl ?_
      exact ⟨by first | rfl | exact congrArg _ HE.out | exact (congrArg _ HE.out).symm, bl_put TT.1 (by omega) _ _ _⟩
end Go.Proofs.YtlloghbaggdhnaaDoor
