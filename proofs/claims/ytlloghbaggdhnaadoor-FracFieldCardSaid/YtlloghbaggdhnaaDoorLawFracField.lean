/- The walk of the law FracField: it returns true. Condition: parts within the form's own reach. -/
import Derived.Test.YtlloghbaggdhnaaDoorFracE
set_option linter.unusedVariables false
set_option linter.unusedSimpArgs false
namespace Go.Proofs.YtlloghbaggdhnaaDoor
open Go Go.RowKit

theorem toList_inj {a b : ByteArray} (h : a.toList = b.toList) : a = b := by
  rcases Classical.em (a = b) with e | e
  · exact e
  · exact absurd h (toList_neq e)
theorem c_inj {y o : Rat} (h1 : cg y = cg o) (h2 : (cn y).toList = (cn o).toList) (h3 : (cd y).toList = (cd o).toList) : y = o := by
  rw [← rv_c y, ← rv_c o, h1, toList_inj h2, toList_inj h3]
theorem c_ne {x y : Rat} (h : x ≠ y) : ¬ cg x = cg y ∨ (cg x = cg y ∧ ¬ (cn x).toList = (cn y).toList) ∨ (cg x = cg y ∧ (cn x).toList = (cn y).toList ∧ ¬ (cd x).toList = (cd y).toList) := by
  by_cases h1 : cg x = cg y
  · by_cases h2 : (cn x).toList = (cn y).toList
    · exact .inr (.inr ⟨h1, h2, fun h3 => h (c_inj h1 h2 h3)⟩)
    · exact .inr (.inl ⟨h1, h2⟩)
  · exact .inl h1
theorem St.below {w0 wx : World} {l : List (Nat × TypeId × List Value)} (h : St w0 wx l) : Below w0.heap.size w0 wx := h.1
set_option maxRecDepth 100000 in
set_option maxHeartbeats 8000000 in
theorem fracField_core (ga : Bool) (na da : ByteArray) (gb : Bool) (nb_ db : ByteArray) (gc : Bool) (nc dc : ByteArray) (w : World)
    (s p sc yz pc mbc sz xz x o y xc one : Rat) (dv : Value) (k k2 kc : Int)
    (hl : ∀ x ∈ [(ga, na, da), (gb, nb_, db), (gc, nc, dc)], x.2.1.size ≤ 140737488355328 ∧ x.2.2.size ≤ 140737488355328)
    (h200 : fbytes [(ga, na, da), (gb, nb_, db), (gc, nc, dc)] ≤ 200)
    (G1 : Gives 14 #[.agg #[.bool ga, .string na, .string da], .agg #[.bool gb, .string nb_, .string db]] (fv s))
    (G2 : Gives 14 #[.agg #[.bool gb, .string nb_, .string db], .agg #[.bool ga, .string na, .string da]] (fv s))
    (G3 : Gives 15 #[.agg #[.bool ga, .string na, .string da], .agg #[.bool gb, .string nb_, .string db]] (fv p))
    (G4 : Gives 15 #[.agg #[.bool gb, .string nb_, .string db], .agg #[.bool ga, .string na, .string da]] (fv p))
    (G5 : Gives 14 #[fv s, .agg #[.bool gc, .string nc, .string dc]] (fv sc))
    (G6 : Gives 14 #[.agg #[.bool gb, .string nb_, .string db], .agg #[.bool gc, .string nc, .string dc]] (fv yz))
    (G7 : Gives 14 #[.agg #[.bool ga, .string na, .string da], fv yz] (fv sc))
    (G8 : Gives 15 #[fv p, .agg #[.bool gc, .string nc, .string dc]] (fv pc))
    (G9 : Gives 15 #[.agg #[.bool gb, .string nb_, .string db], .agg #[.bool gc, .string nc, .string dc]] (fv mbc))
    (G10 : Gives 15 #[.agg #[.bool ga, .string na, .string da], fv mbc] (fv pc))
    (G11 : Gives 15 #[fv s, .agg #[.bool gc, .string nc, .string dc]] (fv sz))
    (G12 : Gives 15 #[.agg #[.bool ga, .string na, .string da], .agg #[.bool gc, .string nc, .string dc]] (fv xz))
    (G13 : Gives 14 #[fv xz, fv mbc] (fv sz))
    (G14 : Gives 16 #[fv s, .agg #[.bool gb, .string nb_, .string db]] (fv x))
    (G15 : Gives 17 #[.agg #[.bool ga, .string na, .string da]] (fv x))
    (G16 : Gives 16 #[.agg #[.bool ga, .string na, .string da], .agg #[.bool ga, .string na, .string da]] (fv o))
    (G17 : Gives 18 #[.int .i64 0] (fv o))
    (G18 : Gives 17 #[.agg #[.bool gb, .string nb_, .string db]] (fv y))
    (G19 : Gives 20 #[.agg #[.bool ga, .string na, .string da], .agg #[.bool gb, .string nb_, .string db]] (.int .i64 k))
    (G20 : Gives 20 #[.agg #[.bool gb, .string nb_, .string db], .agg #[.bool ga, .string na, .string da]] (.int .i64 k2))
    (G21 : Gives 14 #[.agg #[.bool ga, .string na, .string da], .agg #[.bool gc, .string nc, .string dc]] (fv xc))
    (G22 : Gives 20 #[fv xc, fv yz] (.int .i64 k))
    (G23 : Gives 20 #[.agg #[.bool gc, .string nc, .string dc], fv o] (.int .i64 kc))
    (G24 : Gives 17 #[fv x] (fv x))
    (G25 : Gives 18 #[.int .i64 1] (fv one))
    (G26 : Gives 20 #[fv one, fv o] (.int .i64 1))
    (gq : Bool) (nq dq : ByteArray) (de : Int)
    (G27 : Gives 19 #[fv p, .agg #[.bool gb, .string nb_, .string db]] (.tuple #[.agg #[.bool gq, .string nq, .string dq], .int .i64 de]))
    (zb : Bool) (hyo : (zb = true ∧ y = o ∧ de = 3) ∨ (zb = false ∧ y ≠ o ∧ de = 0 ∧ gq = cg x ∧ nq = cn x ∧ dq = cd x))
    (hk : IntKind.i64.wrap (-k2) = k) (hxy : (k = 0 ∧ x = y) ∨ (k ≠ 0 ∧ x ≠ y))
    (G28 : 0 < kc → Gives 20 #[fv xz, fv mbc] (.int .i64 k))
    (GS : ∀ (v : Value) (w : World), Fl w v [(ga, na, da), (gb, nb_, db), (gc, nc, dc)] → Calls Tryd.prog 21 #[v] w fun e w' => e = .returned (fv sc) ∧ Below w.heap.size w w') :
    Calls Tryd.prog 3 #[.agg #[.bool ga, .string na, .string da], .agg #[.bool gb, .string nb_, .string db], .agg #[.bool gc, .string nc, .string dc]] w (RetBool w true) := by
  have S0 := (((St.new w).alloc #[.bool ga, .string na, .string da] 24).alloc #[.bool gb, .string nb_, .string db] 24).alloc #[.bool gc, .string nc, .string dc] 24
  have C0 := S0.c
  simp only [List.nil_append, List.cons_append, World.size_alloc] at S0 C0
  simp only [cellsAll, cellsAt, and_true, Nat.zero_add, Nat.reduceAdd] at C0
  have HL := Lib.hid (And.intro hl h200)
  have HYO := Lib.hid hyo
  have HK := Lib.hid hk
  have HXY := Lib.hid hxy
  have HG28 := Lib.hid G28
  have HGS := Lib.hid GS
  clear hl h200 hyo hk hxy G28 GS
  go_enter Tryd.func3, Tryd.ntmps3
  go_wp2_with fail
  --M1
  refine (bytes_any [(ga, na, da), (gb, nb_, db), (gc, nc, dc)] _ _ (Fl.lit3 (by simp) _ _ _ _ _ _ _ _ _ _) (show (3 : Nat) ≤ 140737488355328 by decide) HL.out.1).mono ?_
  rintro e w1 ⟨n, rfl, ⟨_, hn⟩, m, rfl⟩
  have hn2 : (n : Int) ≤ 200 := by
    have := HL.out.2
    omega
  have hn3 : ¬ (200 : Int) < n := by omega
  clear hn C0
  have S1 := (S0.alloc' (.cells #[.bool ga, .string na, .string da, .bool gb, .string nb_, .string db, .bool gc, .string nc, .string dc] 24)).drewN m
  have C1 := S1.c
  simp only [cellsAll, cellsAt, and_true, Nat.zero_add, Nat.reduceAdd] at C1
  go_wp2_with fail
  --M3
  refine (G1.at _).mono ?_; rintro e w2 ⟨rfl, hb⟩
  have S2 := S1.ext hb
  have C2 := (S2.alloc #[.bool (cg s), .string (cn s), .string (cd s)] 24).c
  simp only [cellsAll, cellsAt, and_true, List.cons_append, List.nil_append] at C2
  go_wp2_with fail
  refine (G3.at _).mono ?_; rintro e w3 ⟨rfl, hb⟩
  have S3 := ((S2.alloc #[.bool (cg s), .string (cn s), .string (cd s)] 24).ext hb).alloc #[.bool (cg p), .string (cn p), .string (cd p)] 24
  simp only [List.nil_append, List.cons_append] at S3
  have C3 := S3.c
  simp only [cellsAll, cellsAt, and_true, Nat.zero_add, Nat.reduceAdd] at C3
  clear C1 C2 S1 S2 S0 hb
  have SOF : Hid (∀ wx, St w wx [(w.heap.size, 24, [.bool ga, .string na, .string da]), (w.heap.size + 1, 24, [.bool gb, .string nb_, .string db]), (w.heap.size + 1 + 1, 24, [.bool gc, .string nc, .string dc]), (w2.heap.size, 24, [.bool (cg s), .string (cn s), .string (cd s)]), (w3.heap.size, 24, [.bool (cg p), .string (cn p), .string (cd p)])] → St w wx [(w.heap.size, 24, [.bool ga, .string na, .string da]), (w.heap.size + 1, 24, [.bool gb, .string nb_, .string db]), (w.heap.size + 1 + 1, 24, [.bool gc, .string nc, .string dc]), (w2.heap.size, 24, [.bool (cg s), .string (cn s), .string (cd s)]), (w3.heap.size, 24, [.bool (cg p), .string (cn p), .string (cd p)])] ∧ wx.cell? ⟨w.heap.size, 0, none⟩ = some (.bool ga) ∧ wx.cell? ⟨w.heap.size, 1, none⟩ = some (.string na) ∧ wx.cell? ⟨w.heap.size, 2, none⟩ = some (.string da) ∧ wx.cell? ⟨w.heap.size + 1, 0, none⟩ = some (.bool gb) ∧ wx.cell? ⟨w.heap.size + 1, 1, none⟩ = some (.string nb_) ∧ wx.cell? ⟨w.heap.size + 1, 2, none⟩ = some (.string db) ∧ wx.cell? ⟨w.heap.size + 1 + 1, 0, none⟩ = some (.bool gc) ∧ wx.cell? ⟨w.heap.size + 1 + 1, 1, none⟩ = some (.string nc) ∧ wx.cell? ⟨w.heap.size + 1 + 1, 2, none⟩ = some (.string dc) ∧ wx.cell? ⟨w2.heap.size, 0, none⟩ = some (.bool (cg s)) ∧ wx.cell? ⟨w2.heap.size, 1, none⟩ = some (.string (cn s)) ∧ wx.cell? ⟨w2.heap.size, 2, none⟩ = some (.string (cd s)) ∧ wx.cell? ⟨w3.heap.size, 0, none⟩ = some (.bool (cg p)) ∧ wx.cell? ⟨w3.heap.size, 1, none⟩ = some (.string (cn p)) ∧ wx.cell? ⟨w3.heap.size, 2, none⟩ = some (.string (cd p))) := fun wx TT => by have CC := TT.c; simp only [cellsAll, cellsAt, and_true, Nat.zero_add, Nat.reduceAdd] at CC; exact ⟨TT, by simp only [CC, and_self]⟩
  go_upto_region 5 with fail
  clear C3
  generalize (w3.alloc _ : World) = W0 at *
  go_upto_region 5 with fail
  go_cut [58] (fun sx wx => sx = .bool false ∧ St w wx [(w.heap.size, 24, [.bool ga, .string na, .string da]), (w.heap.size + 1, 24, [.bool gb, .string nb_, .string db]), (w.heap.size + 1 + 1, 24, [.bool gc, .string nc, .string dc]), (w2.heap.size, 24, [.bool (cg s), .string (cn s), .string (cd s)]), (w3.heap.size, 24, [.bool (cg p), .string (cn p), .string (cd p)])])
  case first =>
    as_aux_lemma =>
    --M5
      go_region_held3 (fun wx => St w wx [(w.heap.size, 24, [.bool ga, .string na, .string da]), (w.heap.size + 1, 24, [.bool gb, .string nb_, .string db]), (w.heap.size + 1 + 1, 24, [.bool gc, .string nc, .string dc]), (w2.heap.size, 24, [.bool (cg s), .string (cn s), .string (cd s)]), (w3.heap.size, 24, [.bool (cg p), .string (cn p), .string (cd p)])] ∧
        wx.cell? ⟨w.heap.size, 0, none⟩ = some (.bool ga) ∧ wx.cell? ⟨w.heap.size, 1, none⟩ = some (.string na) ∧ wx.cell? ⟨w.heap.size, 2, none⟩ = some (.string da) ∧ wx.cell? ⟨w.heap.size + 1, 0, none⟩ = some (.bool gb) ∧ wx.cell? ⟨w.heap.size + 1, 1, none⟩ = some (.string nb_) ∧ wx.cell? ⟨w.heap.size + 1, 2, none⟩ = some (.string db) ∧ wx.cell? ⟨w.heap.size + 1 + 1, 0, none⟩ = some (.bool gc) ∧ wx.cell? ⟨w.heap.size + 1 + 1, 1, none⟩ = some (.string nc) ∧ wx.cell? ⟨w.heap.size + 1 + 1, 2, none⟩ = some (.string dc) ∧ wx.cell? ⟨w2.heap.size, 0, none⟩ = some (.bool (cg s)) ∧ wx.cell? ⟨w2.heap.size, 1, none⟩ = some (.string (cn s)) ∧ wx.cell? ⟨w2.heap.size, 2, none⟩ = some (.string (cd s)) ∧ wx.cell? ⟨w3.heap.size, 0, none⟩ = some (.bool (cg p)) ∧ wx.cell? ⟨w3.heap.size, 1, none⟩ = some (.string (cn p)) ∧ wx.cell? ⟨w3.heap.size, 2, none⟩ = some (.string (cd p)))
        (first | with_reducible exact SOF.out _ TT | with_reducible exact SOF.out _ (St.drew (by with_reducible assumption)) | with_reducible exact SOF.out _ (St.alloc' (And.left (by with_reducible assumption)) _))
        ((first | (go_at_call 14; (first | with_reducible refine (G1.at _).mono ?_ | with_reducible refine (G2.at _).mono ?_ | with_reducible refine (G5.at _).mono ?_ | with_reducible refine (G6.at _).mono ?_ | with_reducible refine (G7.at _).mono ?_ | with_reducible refine (G13.at _).mono ?_ | with_reducible refine (G21.at _).mono ?_); rintro e w' ⟨rfl, hb⟩; have TT := St.ext (And.left (by with_reducible assumption)) hb) | (go_at_call 15; (first | with_reducible refine (G3.at _).mono ?_ | with_reducible refine (G4.at _).mono ?_ | with_reducible refine (G8.at _).mono ?_ | with_reducible refine (G9.at _).mono ?_ | with_reducible refine (G10.at _).mono ?_ | with_reducible refine (G11.at _).mono ?_ | with_reducible refine (G12.at _).mono ?_); rintro e w' ⟨rfl, hb⟩; have TT := St.ext (And.left (by with_reducible assumption)) hb) | (go_at_call 16; (first | with_reducible refine (G14.at _).mono ?_ | with_reducible refine (G16.at _).mono ?_); rintro e w' ⟨rfl, hb⟩; have TT := St.ext (And.left (by with_reducible assumption)) hb) | (go_at_call 17; (first | with_reducible refine (G15.at _).mono ?_ | with_reducible refine (G18.at _).mono ?_ | with_reducible refine (G24.at _).mono ?_); rintro e w' ⟨rfl, hb⟩; have TT := St.ext (And.left (by with_reducible assumption)) hb) | (go_at_call 18; (first | with_reducible refine (G17.at _).mono ?_ | with_reducible refine (G25.at _).mono ?_); rintro e w' ⟨rfl, hb⟩; have TT := St.ext (And.left (by with_reducible assumption)) hb) | (go_at_call 20; (first | with_reducible refine (G19.at _).mono ?_ | with_reducible refine (G20.at _).mono ?_ | with_reducible refine (G22.at _).mono ?_ | with_reducible refine (G23.at _).mono ?_ | with_reducible refine (G26.at _).mono ?_); rintro e w' ⟨rfl, hb⟩; have TT := St.ext (And.left (by with_reducible assumption)) hb) | (go_at_call 19; (first | with_reducible refine (G27.at _).mono ?_); rintro e w' ⟨rfl, hb⟩; have TT := St.ext (And.left (by with_reducible assumption)) hb)))
      all_goals (go_wp2_with fail; go_meet)
      all_goals exact ⟨rfl, by assumption⟩
  case rest =>
  clear S3
  obtain ⟨rfl, S3⟩ := hcut
  go_upto_region 7 with fail
  go_cut [84] (fun sx wx => sx = .bool false ∧ St w wx [(w.heap.size, 24, [.bool ga, .string na, .string da]), (w.heap.size + 1, 24, [.bool gb, .string nb_, .string db]), (w.heap.size + 1 + 1, 24, [.bool gc, .string nc, .string dc]), (w2.heap.size, 24, [.bool (cg s), .string (cn s), .string (cd s)]), (w3.heap.size, 24, [.bool (cg p), .string (cn p), .string (cd p)])])
  case first =>
    as_aux_lemma =>
    --M6
      go_region_held3 (fun wx => St w wx [(w.heap.size, 24, [.bool ga, .string na, .string da]), (w.heap.size + 1, 24, [.bool gb, .string nb_, .string db]), (w.heap.size + 1 + 1, 24, [.bool gc, .string nc, .string dc]), (w2.heap.size, 24, [.bool (cg s), .string (cn s), .string (cd s)]), (w3.heap.size, 24, [.bool (cg p), .string (cn p), .string (cd p)])] ∧
        wx.cell? ⟨w.heap.size, 0, none⟩ = some (.bool ga) ∧ wx.cell? ⟨w.heap.size, 1, none⟩ = some (.string na) ∧ wx.cell? ⟨w.heap.size, 2, none⟩ = some (.string da) ∧ wx.cell? ⟨w.heap.size + 1, 0, none⟩ = some (.bool gb) ∧ wx.cell? ⟨w.heap.size + 1, 1, none⟩ = some (.string nb_) ∧ wx.cell? ⟨w.heap.size + 1, 2, none⟩ = some (.string db) ∧ wx.cell? ⟨w.heap.size + 1 + 1, 0, none⟩ = some (.bool gc) ∧ wx.cell? ⟨w.heap.size + 1 + 1, 1, none⟩ = some (.string nc) ∧ wx.cell? ⟨w.heap.size + 1 + 1, 2, none⟩ = some (.string dc) ∧ wx.cell? ⟨w2.heap.size, 0, none⟩ = some (.bool (cg s)) ∧ wx.cell? ⟨w2.heap.size, 1, none⟩ = some (.string (cn s)) ∧ wx.cell? ⟨w2.heap.size, 2, none⟩ = some (.string (cd s)) ∧ wx.cell? ⟨w3.heap.size, 0, none⟩ = some (.bool (cg p)) ∧ wx.cell? ⟨w3.heap.size, 1, none⟩ = some (.string (cn p)) ∧ wx.cell? ⟨w3.heap.size, 2, none⟩ = some (.string (cd p)))
        (first | with_reducible exact SOF.out _ TT | with_reducible exact SOF.out _ (St.drew (by with_reducible assumption)) | with_reducible exact SOF.out _ (St.alloc' (And.left (by with_reducible assumption)) _))
        ((first | (go_at_call 14; (first | with_reducible refine (G1.at _).mono ?_ | with_reducible refine (G2.at _).mono ?_ | with_reducible refine (G5.at _).mono ?_ | with_reducible refine (G6.at _).mono ?_ | with_reducible refine (G7.at _).mono ?_ | with_reducible refine (G13.at _).mono ?_ | with_reducible refine (G21.at _).mono ?_); rintro e w' ⟨rfl, hb⟩; have TT := St.ext (And.left (by with_reducible assumption)) hb) | (go_at_call 15; (first | with_reducible refine (G3.at _).mono ?_ | with_reducible refine (G4.at _).mono ?_ | with_reducible refine (G8.at _).mono ?_ | with_reducible refine (G9.at _).mono ?_ | with_reducible refine (G10.at _).mono ?_ | with_reducible refine (G11.at _).mono ?_ | with_reducible refine (G12.at _).mono ?_); rintro e w' ⟨rfl, hb⟩; have TT := St.ext (And.left (by with_reducible assumption)) hb) | (go_at_call 16; (first | with_reducible refine (G14.at _).mono ?_ | with_reducible refine (G16.at _).mono ?_); rintro e w' ⟨rfl, hb⟩; have TT := St.ext (And.left (by with_reducible assumption)) hb) | (go_at_call 17; (first | with_reducible refine (G15.at _).mono ?_ | with_reducible refine (G18.at _).mono ?_ | with_reducible refine (G24.at _).mono ?_); rintro e w' ⟨rfl, hb⟩; have TT := St.ext (And.left (by with_reducible assumption)) hb) | (go_at_call 18; (first | with_reducible refine (G17.at _).mono ?_ | with_reducible refine (G25.at _).mono ?_); rintro e w' ⟨rfl, hb⟩; have TT := St.ext (And.left (by with_reducible assumption)) hb) | (go_at_call 20; (first | with_reducible refine (G19.at _).mono ?_ | with_reducible refine (G20.at _).mono ?_ | with_reducible refine (G22.at _).mono ?_ | with_reducible refine (G23.at _).mono ?_ | with_reducible refine (G26.at _).mono ?_); rintro e w' ⟨rfl, hb⟩; have TT := St.ext (And.left (by with_reducible assumption)) hb) | (go_at_call 19; (first | with_reducible refine (G27.at _).mono ?_); rintro e w' ⟨rfl, hb⟩; have TT := St.ext (And.left (by with_reducible assumption)) hb)))
      all_goals (go_wp2_with fail; go_meet)
      all_goals exact ⟨rfl, by assumption⟩
  case rest =>
  clear S3
  obtain ⟨rfl, S3⟩ := hcut
  have C3 := S3.c
  simp only [cellsAll, cellsAt, and_true, Nat.zero_add, Nat.reduceAdd] at C3
  go_wp2_with fail
  refine (G27.at _).mono ?_; rintro e w4 ⟨rfl, hb⟩
  have S4 := (S3.ext hb).alloc #[.bool gq, .string nq, .string dq] 24
  simp only [List.nil_append, List.cons_append] at S4
  clear C3 S3
  have C3 := S4.c
  simp only [cellsAll, cellsAt, and_true, Nat.zero_add, Nat.reduceAdd] at C3
  clear C3
  go_upto_region 10 with fail
  generalize (w4.alloc _ : World) = W1 at *
  go_cut [11] (fun sx wx => sx = .bool zb ∧ St w wx [(w.heap.size, 24, [.bool ga, .string na, .string da]), (w.heap.size + 1, 24, [.bool gb, .string nb_, .string db]), (w.heap.size + 1 + 1, 24, [.bool gc, .string nc, .string dc]), (w2.heap.size, 24, [.bool (cg s), .string (cn s), .string (cd s)]), (w3.heap.size, 24, [.bool (cg p), .string (cn p), .string (cd p)]), (w4.heap.size, 24, [.bool gq, .string nq, .string dq])])
  case first =>
    as_aux_lemma =>
    --M8
      have C3 := S4.c
      simp only [cellsAll, cellsAt, and_true, Nat.zero_add, Nat.reduceAdd] at C3
      rcases HYO.out with ⟨rfl, rfl, hde⟩ | ⟨rfl, hne, hde⟩
      all_goals clear hde
      · go_wp2_with fail
        refine (G18.at _).mono ?_; rintro e w5 ⟨rfl, hb⟩
        go_wp2_with fail
        refine (G17.at _).mono ?_; rintro e w6 ⟨rfl, hb'⟩
        have S5 := (S4.ext hb).ext hb'
        clear C3
        go_wp2_with fail
        go_meet
        exact ⟨rfl, S5⟩
      · have HN := Lib.hid hne
        clear hne
        go_wp2_with fail
        refine (G18.at _).mono ?_; rintro e w5 ⟨rfl, hb⟩
        go_wp2_with fail
        refine (G17.at _).mono ?_; rintro e w6 ⟨rfl, hb'⟩
        have S5 := (S4.ext hb).ext hb'
        clear C3
        go_wp2_with fail
        all_goals first | (exfalso; exact HN.out (c_inj (by assumption) (by assumption) (by assumption))) | (go_meet; exact ⟨rfl, S5⟩)
  case rest =>
  clear S4
  obtain ⟨rfl, S3⟩ := hcut
  clear SOF
  have SOF : Hid (∀ wx, St w wx [(w.heap.size, 24, [.bool ga, .string na, .string da]), (w.heap.size + 1, 24, [.bool gb, .string nb_, .string db]), (w.heap.size + 1 + 1, 24, [.bool gc, .string nc, .string dc]), (w2.heap.size, 24, [.bool (cg s), .string (cn s), .string (cd s)]), (w3.heap.size, 24, [.bool (cg p), .string (cn p), .string (cd p)]), (w4.heap.size, 24, [.bool gq, .string nq, .string dq])] → St w wx [(w.heap.size, 24, [.bool ga, .string na, .string da]), (w.heap.size + 1, 24, [.bool gb, .string nb_, .string db]), (w.heap.size + 1 + 1, 24, [.bool gc, .string nc, .string dc]), (w2.heap.size, 24, [.bool (cg s), .string (cn s), .string (cd s)]), (w3.heap.size, 24, [.bool (cg p), .string (cn p), .string (cd p)]), (w4.heap.size, 24, [.bool gq, .string nq, .string dq])] ∧ wx.cell? ⟨w.heap.size, 0, none⟩ = some (.bool ga) ∧ wx.cell? ⟨w.heap.size, 1, none⟩ = some (.string na) ∧ wx.cell? ⟨w.heap.size, 2, none⟩ = some (.string da) ∧ wx.cell? ⟨w.heap.size + 1, 0, none⟩ = some (.bool gb) ∧ wx.cell? ⟨w.heap.size + 1, 1, none⟩ = some (.string nb_) ∧ wx.cell? ⟨w.heap.size + 1, 2, none⟩ = some (.string db) ∧ wx.cell? ⟨w.heap.size + 1 + 1, 0, none⟩ = some (.bool gc) ∧ wx.cell? ⟨w.heap.size + 1 + 1, 1, none⟩ = some (.string nc) ∧ wx.cell? ⟨w.heap.size + 1 + 1, 2, none⟩ = some (.string dc) ∧ wx.cell? ⟨w2.heap.size, 0, none⟩ = some (.bool (cg s)) ∧ wx.cell? ⟨w2.heap.size, 1, none⟩ = some (.string (cn s)) ∧ wx.cell? ⟨w2.heap.size, 2, none⟩ = some (.string (cd s)) ∧ wx.cell? ⟨w3.heap.size, 0, none⟩ = some (.bool (cg p)) ∧ wx.cell? ⟨w3.heap.size, 1, none⟩ = some (.string (cn p)) ∧ wx.cell? ⟨w3.heap.size, 2, none⟩ = some (.string (cd p)) ∧ wx.cell? ⟨w4.heap.size, 0, none⟩ = some (.bool gq) ∧ wx.cell? ⟨w4.heap.size, 1, none⟩ = some (.string nq) ∧ wx.cell? ⟨w4.heap.size, 2, none⟩ = some (.string dq)) := fun wx TT => by have CC := TT.c; simp only [cellsAll, cellsAt, and_true, Nat.zero_add, Nat.reduceAdd] at CC; exact ⟨TT, by simp only [CC, and_self]⟩
  go_upto_region 11 with fail
  go_cut [112] (fun sx wx => sx = .bool false ∧ St w wx [(w.heap.size, 24, [.bool ga, .string na, .string da]), (w.heap.size + 1, 24, [.bool gb, .string nb_, .string db]), (w.heap.size + 1 + 1, 24, [.bool gc, .string nc, .string dc]), (w2.heap.size, 24, [.bool (cg s), .string (cn s), .string (cd s)]), (w3.heap.size, 24, [.bool (cg p), .string (cn p), .string (cd p)]), (w4.heap.size, 24, [.bool gq, .string nq, .string dq])])
  case first =>
    as_aux_lemma =>
    --M11
      rcases HYO.out with ⟨e1, _, e2⟩ | ⟨e1, _, e2, e3, e4, e5⟩
      · clear HYO SOF
        subst e1 e2
        go_quiet (fail)
        go_wp2_with fail
        go_meet
        exact ⟨rfl, St.drewN S3 _⟩
      · clear HYO
        subst e1 e2 e3 e4 e5
        have S3' := S3
        go_region_held3 (fun wx => St w wx [(w.heap.size, 24, [.bool ga, .string na, .string da]), (w.heap.size + 1, 24, [.bool gb, .string nb_, .string db]), (w.heap.size + 1 + 1, 24, [.bool gc, .string nc, .string dc]), (w2.heap.size, 24, [.bool (cg s), .string (cn s), .string (cd s)]), (w3.heap.size, 24, [.bool (cg p), .string (cn p), .string (cd p)]), (w4.heap.size, 24, [.bool (cg x), .string (cn x), .string (cd x)])] ∧
          wx.cell? ⟨w.heap.size, 0, none⟩ = some (.bool ga) ∧ wx.cell? ⟨w.heap.size, 1, none⟩ = some (.string na) ∧ wx.cell? ⟨w.heap.size, 2, none⟩ = some (.string da) ∧ wx.cell? ⟨w.heap.size + 1, 0, none⟩ = some (.bool gb) ∧ wx.cell? ⟨w.heap.size + 1, 1, none⟩ = some (.string nb_) ∧ wx.cell? ⟨w.heap.size + 1, 2, none⟩ = some (.string db) ∧ wx.cell? ⟨w.heap.size + 1 + 1, 0, none⟩ = some (.bool gc) ∧ wx.cell? ⟨w.heap.size + 1 + 1, 1, none⟩ = some (.string nc) ∧ wx.cell? ⟨w.heap.size + 1 + 1, 2, none⟩ = some (.string dc) ∧ wx.cell? ⟨w2.heap.size, 0, none⟩ = some (.bool (cg s)) ∧ wx.cell? ⟨w2.heap.size, 1, none⟩ = some (.string (cn s)) ∧ wx.cell? ⟨w2.heap.size, 2, none⟩ = some (.string (cd s)) ∧ wx.cell? ⟨w3.heap.size, 0, none⟩ = some (.bool (cg p)) ∧ wx.cell? ⟨w3.heap.size, 1, none⟩ = some (.string (cn p)) ∧ wx.cell? ⟨w3.heap.size, 2, none⟩ = some (.string (cd p)) ∧ wx.cell? ⟨w4.heap.size, 0, none⟩ = some (.bool (cg x)) ∧ wx.cell? ⟨w4.heap.size, 1, none⟩ = some (.string (cn x)) ∧ wx.cell? ⟨w4.heap.size, 2, none⟩ = some (.string (cd x)))
          (first | with_reducible exact SOF.out _ TT | with_reducible exact SOF.out _ (St.drew (by with_reducible assumption)) | with_reducible exact SOF.out _ (St.alloc' (And.left (by with_reducible assumption)) _))
          ((first | (go_at_call 14; (first | with_reducible refine (G1.at _).mono ?_ | with_reducible refine (G2.at _).mono ?_ | with_reducible refine (G5.at _).mono ?_ | with_reducible refine (G6.at _).mono ?_ | with_reducible refine (G7.at _).mono ?_ | with_reducible refine (G13.at _).mono ?_ | with_reducible refine (G21.at _).mono ?_); rintro e w' ⟨rfl, hb⟩; have TT := St.ext (And.left (by with_reducible assumption)) hb) | (go_at_call 15; (first | with_reducible refine (G3.at _).mono ?_ | with_reducible refine (G4.at _).mono ?_ | with_reducible refine (G8.at _).mono ?_ | with_reducible refine (G9.at _).mono ?_ | with_reducible refine (G10.at _).mono ?_ | with_reducible refine (G11.at _).mono ?_ | with_reducible refine (G12.at _).mono ?_); rintro e w' ⟨rfl, hb⟩; have TT := St.ext (And.left (by with_reducible assumption)) hb) | (go_at_call 16; (first | with_reducible refine (G14.at _).mono ?_ | with_reducible refine (G16.at _).mono ?_); rintro e w' ⟨rfl, hb⟩; have TT := St.ext (And.left (by with_reducible assumption)) hb) | (go_at_call 17; (first | with_reducible refine (G15.at _).mono ?_ | with_reducible refine (G18.at _).mono ?_ | with_reducible refine (G24.at _).mono ?_); rintro e w' ⟨rfl, hb⟩; have TT := St.ext (And.left (by with_reducible assumption)) hb) | (go_at_call 18; (first | with_reducible refine (G17.at _).mono ?_ | with_reducible refine (G25.at _).mono ?_); rintro e w' ⟨rfl, hb⟩; have TT := St.ext (And.left (by with_reducible assumption)) hb) | (go_at_call 20; (first | with_reducible refine (G19.at _).mono ?_ | with_reducible refine (G20.at _).mono ?_ | with_reducible refine (G22.at _).mono ?_ | with_reducible refine (G23.at _).mono ?_ | with_reducible refine (G26.at _).mono ?_); rintro e w' ⟨rfl, hb⟩; have TT := St.ext (And.left (by with_reducible assumption)) hb) | (go_at_call 19; (first | with_reducible refine (G27.at _).mono ?_); rintro e w' ⟨rfl, hb⟩; have TT := St.ext (And.left (by with_reducible assumption)) hb)))
        all_goals (go_wp2_with fail; go_meet)
        all_goals exact ⟨rfl, by assumption⟩
  case rest =>
  clear S3
  obtain ⟨rfl, S3⟩ := hcut
  have C3 := S3.c
  simp only [cellsAll, cellsAt, and_true, Nat.zero_add, Nat.reduceAdd] at C3
  go_wp2_with fail
  refine (G19.at _).mono ?_; rintro e w7 ⟨rfl, hb⟩
  clear C3
  have S4 := S3.ext hb
  clear S3
  have S3 := S4
  clear S4
  go_upto_region 14 with fail
  go_cut [142] (fun sx wx => sx = .bool false ∧ St w wx [(w.heap.size, 24, [.bool ga, .string na, .string da]), (w.heap.size + 1, 24, [.bool gb, .string nb_, .string db]), (w.heap.size + 1 + 1, 24, [.bool gc, .string nc, .string dc]), (w2.heap.size, 24, [.bool (cg s), .string (cn s), .string (cd s)]), (w3.heap.size, 24, [.bool (cg p), .string (cn p), .string (cd p)]), (w4.heap.size, 24, [.bool gq, .string nq, .string dq])])
  case first =>
    as_aux_lemma =>
    --M14
      have hk := HK.out
      rcases HXY.out with ⟨rfl, rfl⟩ | ⟨hk0, hne⟩
      · go_region_held3 (fun wx => St w wx [(w.heap.size, 24, [.bool ga, .string na, .string da]), (w.heap.size + 1, 24, [.bool gb, .string nb_, .string db]), (w.heap.size + 1 + 1, 24, [.bool gc, .string nc, .string dc]), (w2.heap.size, 24, [.bool (cg s), .string (cn s), .string (cd s)]), (w3.heap.size, 24, [.bool (cg p), .string (cn p), .string (cd p)]), (w4.heap.size, 24, [.bool gq, .string nq, .string dq])] ∧
          wx.cell? ⟨w.heap.size, 0, none⟩ = some (.bool ga) ∧ wx.cell? ⟨w.heap.size, 1, none⟩ = some (.string na) ∧ wx.cell? ⟨w.heap.size, 2, none⟩ = some (.string da) ∧ wx.cell? ⟨w.heap.size + 1, 0, none⟩ = some (.bool gb) ∧ wx.cell? ⟨w.heap.size + 1, 1, none⟩ = some (.string nb_) ∧ wx.cell? ⟨w.heap.size + 1, 2, none⟩ = some (.string db) ∧ wx.cell? ⟨w.heap.size + 1 + 1, 0, none⟩ = some (.bool gc) ∧ wx.cell? ⟨w.heap.size + 1 + 1, 1, none⟩ = some (.string nc) ∧ wx.cell? ⟨w.heap.size + 1 + 1, 2, none⟩ = some (.string dc) ∧ wx.cell? ⟨w2.heap.size, 0, none⟩ = some (.bool (cg s)) ∧ wx.cell? ⟨w2.heap.size, 1, none⟩ = some (.string (cn s)) ∧ wx.cell? ⟨w2.heap.size, 2, none⟩ = some (.string (cd s)) ∧ wx.cell? ⟨w3.heap.size, 0, none⟩ = some (.bool (cg p)) ∧ wx.cell? ⟨w3.heap.size, 1, none⟩ = some (.string (cn p)) ∧ wx.cell? ⟨w3.heap.size, 2, none⟩ = some (.string (cd p)) ∧ wx.cell? ⟨w4.heap.size, 0, none⟩ = some (.bool gq) ∧ wx.cell? ⟨w4.heap.size, 1, none⟩ = some (.string nq) ∧ wx.cell? ⟨w4.heap.size, 2, none⟩ = some (.string dq))
          (first | with_reducible exact SOF.out _ TT | with_reducible exact SOF.out _ (St.drew (by with_reducible assumption)) | with_reducible exact SOF.out _ (St.alloc' (And.left (by with_reducible assumption)) _))
          ((first | (go_at_call 14; (first | with_reducible refine (G1.at _).mono ?_ | with_reducible refine (G2.at _).mono ?_ | with_reducible refine (G5.at _).mono ?_ | with_reducible refine (G6.at _).mono ?_ | with_reducible refine (G7.at _).mono ?_ | with_reducible refine (G13.at _).mono ?_ | with_reducible refine (G21.at _).mono ?_); rintro e w' ⟨rfl, hb⟩; have TT := St.ext (And.left (by with_reducible assumption)) hb) | (go_at_call 15; (first | with_reducible refine (G3.at _).mono ?_ | with_reducible refine (G4.at _).mono ?_ | with_reducible refine (G8.at _).mono ?_ | with_reducible refine (G9.at _).mono ?_ | with_reducible refine (G10.at _).mono ?_ | with_reducible refine (G11.at _).mono ?_ | with_reducible refine (G12.at _).mono ?_); rintro e w' ⟨rfl, hb⟩; have TT := St.ext (And.left (by with_reducible assumption)) hb) | (go_at_call 16; (first | with_reducible refine (G14.at _).mono ?_ | with_reducible refine (G16.at _).mono ?_); rintro e w' ⟨rfl, hb⟩; have TT := St.ext (And.left (by with_reducible assumption)) hb) | (go_at_call 17; (first | with_reducible refine (G15.at _).mono ?_ | with_reducible refine (G18.at _).mono ?_ | with_reducible refine (G24.at _).mono ?_); rintro e w' ⟨rfl, hb⟩; have TT := St.ext (And.left (by with_reducible assumption)) hb) | (go_at_call 18; (first | with_reducible refine (G17.at _).mono ?_ | with_reducible refine (G25.at _).mono ?_); rintro e w' ⟨rfl, hb⟩; have TT := St.ext (And.left (by with_reducible assumption)) hb) | (go_at_call 20; (first | with_reducible refine (G19.at _).mono ?_ | with_reducible refine (G20.at _).mono ?_ | with_reducible refine (G22.at _).mono ?_ | with_reducible refine (G23.at _).mono ?_ | with_reducible refine (G26.at _).mono ?_); rintro e w' ⟨rfl, hb⟩; have TT := St.ext (And.left (by with_reducible assumption)) hb) | (go_at_call 19; (first | with_reducible refine (G27.at _).mono ?_); rintro e w' ⟨rfl, hb⟩; have TT := St.ext (And.left (by with_reducible assumption)) hb)))
        all_goals (go_wp2_with fail; go_meet)
        all_goals exact ⟨rfl, by assumption⟩
      · have hk1 : (k == 0) = false := beq_eq_false_iff_ne.2 hk0
        rcases c_ne hne with h1 | ⟨h1, h2⟩ | ⟨h1, h2, h3⟩
        all_goals
          clear hne
          go_region_held3 (fun wx => St w wx [(w.heap.size, 24, [.bool ga, .string na, .string da]), (w.heap.size + 1, 24, [.bool gb, .string nb_, .string db]), (w.heap.size + 1 + 1, 24, [.bool gc, .string nc, .string dc]), (w2.heap.size, 24, [.bool (cg s), .string (cn s), .string (cd s)]), (w3.heap.size, 24, [.bool (cg p), .string (cn p), .string (cd p)]), (w4.heap.size, 24, [.bool gq, .string nq, .string dq])] ∧
            wx.cell? ⟨w.heap.size, 0, none⟩ = some (.bool ga) ∧ wx.cell? ⟨w.heap.size, 1, none⟩ = some (.string na) ∧ wx.cell? ⟨w.heap.size, 2, none⟩ = some (.string da) ∧ wx.cell? ⟨w.heap.size + 1, 0, none⟩ = some (.bool gb) ∧ wx.cell? ⟨w.heap.size + 1, 1, none⟩ = some (.string nb_) ∧ wx.cell? ⟨w.heap.size + 1, 2, none⟩ = some (.string db) ∧ wx.cell? ⟨w.heap.size + 1 + 1, 0, none⟩ = some (.bool gc) ∧ wx.cell? ⟨w.heap.size + 1 + 1, 1, none⟩ = some (.string nc) ∧ wx.cell? ⟨w.heap.size + 1 + 1, 2, none⟩ = some (.string dc) ∧ wx.cell? ⟨w2.heap.size, 0, none⟩ = some (.bool (cg s)) ∧ wx.cell? ⟨w2.heap.size, 1, none⟩ = some (.string (cn s)) ∧ wx.cell? ⟨w2.heap.size, 2, none⟩ = some (.string (cd s)) ∧ wx.cell? ⟨w3.heap.size, 0, none⟩ = some (.bool (cg p)) ∧ wx.cell? ⟨w3.heap.size, 1, none⟩ = some (.string (cn p)) ∧ wx.cell? ⟨w3.heap.size, 2, none⟩ = some (.string (cd p)) ∧ wx.cell? ⟨w4.heap.size, 0, none⟩ = some (.bool gq) ∧ wx.cell? ⟨w4.heap.size, 1, none⟩ = some (.string nq) ∧ wx.cell? ⟨w4.heap.size, 2, none⟩ = some (.string dq))
            (first | with_reducible exact SOF.out _ TT | with_reducible exact SOF.out _ (St.drew (by with_reducible assumption)) | with_reducible exact SOF.out _ (St.alloc' (And.left (by with_reducible assumption)) _))
            ((first | (go_at_call 14; (first | with_reducible refine (G1.at _).mono ?_ | with_reducible refine (G2.at _).mono ?_ | with_reducible refine (G5.at _).mono ?_ | with_reducible refine (G6.at _).mono ?_ | with_reducible refine (G7.at _).mono ?_ | with_reducible refine (G13.at _).mono ?_ | with_reducible refine (G21.at _).mono ?_); rintro e w' ⟨rfl, hb⟩; have TT := St.ext (And.left (by with_reducible assumption)) hb) | (go_at_call 15; (first | with_reducible refine (G3.at _).mono ?_ | with_reducible refine (G4.at _).mono ?_ | with_reducible refine (G8.at _).mono ?_ | with_reducible refine (G9.at _).mono ?_ | with_reducible refine (G10.at _).mono ?_ | with_reducible refine (G11.at _).mono ?_ | with_reducible refine (G12.at _).mono ?_); rintro e w' ⟨rfl, hb⟩; have TT := St.ext (And.left (by with_reducible assumption)) hb) | (go_at_call 16; (first | with_reducible refine (G14.at _).mono ?_ | with_reducible refine (G16.at _).mono ?_); rintro e w' ⟨rfl, hb⟩; have TT := St.ext (And.left (by with_reducible assumption)) hb) | (go_at_call 17; (first | with_reducible refine (G15.at _).mono ?_ | with_reducible refine (G18.at _).mono ?_ | with_reducible refine (G24.at _).mono ?_); rintro e w' ⟨rfl, hb⟩; have TT := St.ext (And.left (by with_reducible assumption)) hb) | (go_at_call 18; (first | with_reducible refine (G17.at _).mono ?_ | with_reducible refine (G25.at _).mono ?_); rintro e w' ⟨rfl, hb⟩; have TT := St.ext (And.left (by with_reducible assumption)) hb) | (go_at_call 20; (first | with_reducible refine (G19.at _).mono ?_ | with_reducible refine (G20.at _).mono ?_ | with_reducible refine (G22.at _).mono ?_ | with_reducible refine (G23.at _).mono ?_ | with_reducible refine (G26.at _).mono ?_); rintro e w' ⟨rfl, hb⟩; have TT := St.ext (And.left (by with_reducible assumption)) hb) | (go_at_call 19; (first | with_reducible refine (G27.at _).mono ?_); rintro e w' ⟨rfl, hb⟩; have TT := St.ext (And.left (by with_reducible assumption)) hb)))
        all_goals (go_wp2_with fail; go_meet)
        all_goals exact ⟨rfl, by assumption⟩
  case rest =>
  clear S3
  obtain ⟨rfl, S3⟩ := hcut
  go_upto_region 16 with fail
  go_cut [157] (fun sx wx => sx = .bool false ∧ St w wx [(w.heap.size, 24, [.bool ga, .string na, .string da]), (w.heap.size + 1, 24, [.bool gb, .string nb_, .string db]), (w.heap.size + 1 + 1, 24, [.bool gc, .string nc, .string dc]), (w2.heap.size, 24, [.bool (cg s), .string (cn s), .string (cd s)]), (w3.heap.size, 24, [.bool (cg p), .string (cn p), .string (cd p)]), (w4.heap.size, 24, [.bool gq, .string nq, .string dq])])
  case first =>
    as_aux_lemma =>
    --M16
      by_cases hkc : 0 < kc
      · have G28 := HG28.out hkc
        go_region_held3 (fun wx => St w wx [(w.heap.size, 24, [.bool ga, .string na, .string da]), (w.heap.size + 1, 24, [.bool gb, .string nb_, .string db]), (w.heap.size + 1 + 1, 24, [.bool gc, .string nc, .string dc]), (w2.heap.size, 24, [.bool (cg s), .string (cn s), .string (cd s)]), (w3.heap.size, 24, [.bool (cg p), .string (cn p), .string (cd p)]), (w4.heap.size, 24, [.bool gq, .string nq, .string dq])] ∧
          wx.cell? ⟨w.heap.size, 0, none⟩ = some (.bool ga) ∧ wx.cell? ⟨w.heap.size, 1, none⟩ = some (.string na) ∧ wx.cell? ⟨w.heap.size, 2, none⟩ = some (.string da) ∧ wx.cell? ⟨w.heap.size + 1, 0, none⟩ = some (.bool gb) ∧ wx.cell? ⟨w.heap.size + 1, 1, none⟩ = some (.string nb_) ∧ wx.cell? ⟨w.heap.size + 1, 2, none⟩ = some (.string db) ∧ wx.cell? ⟨w.heap.size + 1 + 1, 0, none⟩ = some (.bool gc) ∧ wx.cell? ⟨w.heap.size + 1 + 1, 1, none⟩ = some (.string nc) ∧ wx.cell? ⟨w.heap.size + 1 + 1, 2, none⟩ = some (.string dc) ∧ wx.cell? ⟨w2.heap.size, 0, none⟩ = some (.bool (cg s)) ∧ wx.cell? ⟨w2.heap.size, 1, none⟩ = some (.string (cn s)) ∧ wx.cell? ⟨w2.heap.size, 2, none⟩ = some (.string (cd s)) ∧ wx.cell? ⟨w3.heap.size, 0, none⟩ = some (.bool (cg p)) ∧ wx.cell? ⟨w3.heap.size, 1, none⟩ = some (.string (cn p)) ∧ wx.cell? ⟨w3.heap.size, 2, none⟩ = some (.string (cd p)) ∧ wx.cell? ⟨w4.heap.size, 0, none⟩ = some (.bool gq) ∧ wx.cell? ⟨w4.heap.size, 1, none⟩ = some (.string nq) ∧ wx.cell? ⟨w4.heap.size, 2, none⟩ = some (.string dq))
          (first | with_reducible exact SOF.out _ TT | with_reducible exact SOF.out _ (St.drew (by with_reducible assumption)) | with_reducible exact SOF.out _ (St.alloc' (And.left (by with_reducible assumption)) _))
          (first | (go_at_call 20; with_reducible refine (G28.at _).mono ?_; rintro e w' ⟨rfl, hb⟩; have TT := St.ext (And.left (by with_reducible assumption)) hb) | (first | (go_at_call 14; (first | with_reducible refine (G1.at _).mono ?_ | with_reducible refine (G2.at _).mono ?_ | with_reducible refine (G5.at _).mono ?_ | with_reducible refine (G6.at _).mono ?_ | with_reducible refine (G7.at _).mono ?_ | with_reducible refine (G13.at _).mono ?_ | with_reducible refine (G21.at _).mono ?_); rintro e w' ⟨rfl, hb⟩; have TT := St.ext (And.left (by with_reducible assumption)) hb) | (go_at_call 15; (first | with_reducible refine (G3.at _).mono ?_ | with_reducible refine (G4.at _).mono ?_ | with_reducible refine (G8.at _).mono ?_ | with_reducible refine (G9.at _).mono ?_ | with_reducible refine (G10.at _).mono ?_ | with_reducible refine (G11.at _).mono ?_ | with_reducible refine (G12.at _).mono ?_); rintro e w' ⟨rfl, hb⟩; have TT := St.ext (And.left (by with_reducible assumption)) hb) | (go_at_call 16; (first | with_reducible refine (G14.at _).mono ?_ | with_reducible refine (G16.at _).mono ?_); rintro e w' ⟨rfl, hb⟩; have TT := St.ext (And.left (by with_reducible assumption)) hb) | (go_at_call 17; (first | with_reducible refine (G15.at _).mono ?_ | with_reducible refine (G18.at _).mono ?_ | with_reducible refine (G24.at _).mono ?_); rintro e w' ⟨rfl, hb⟩; have TT := St.ext (And.left (by with_reducible assumption)) hb) | (go_at_call 18; (first | with_reducible refine (G17.at _).mono ?_ | with_reducible refine (G25.at _).mono ?_); rintro e w' ⟨rfl, hb⟩; have TT := St.ext (And.left (by with_reducible assumption)) hb) | (go_at_call 20; (first | with_reducible refine (G19.at _).mono ?_ | with_reducible refine (G20.at _).mono ?_ | with_reducible refine (G22.at _).mono ?_ | with_reducible refine (G23.at _).mono ?_ | with_reducible refine (G26.at _).mono ?_); rintro e w' ⟨rfl, hb⟩; have TT := St.ext (And.left (by with_reducible assumption)) hb) | (go_at_call 19; (first | with_reducible refine (G27.at _).mono ?_); rintro e w' ⟨rfl, hb⟩; have TT := St.ext (And.left (by with_reducible assumption)) hb)))
        all_goals (go_wp2_with fail; go_meet)
        all_goals exact ⟨rfl, by assumption⟩
      · have hk0 : decide (0 < kc) = false := decide_eq_false hkc
        refine wp_region_held_drew (S := fun wx => St w wx [(w.heap.size, 24, [.bool ga, .string na, .string da]), (w.heap.size + 1, 24, [.bool gb, .string nb_, .string db]), (w.heap.size + 1 + 1, 24, [.bool gc, .string nc, .string dc]), (w2.heap.size, 24, [.bool (cg s), .string (cn s), .string (cd s)]), (w3.heap.size, 24, [.bool (cg p), .string (cn p), .string (cd p)]), (w4.heap.size, 24, [.bool gq, .string nq, .string dq])]) (by kernel_rfl) (St.drew S3) (fun hHeld => ?_)
        refine wpAnyH_take (i := 0) (v := .agg #[.bool gc, .string nc, .string dc]) rfl (by kernel_rfl) (by kernel_rfl) (by kernel_rfl) (fun _ _ _ h => h) (Or.inl ⟨rfl, fun wx hS => ?_⟩) hHeld ?_
        · have CC := hS.c
          simp only [cellsAll, cellsAt, and_true, Nat.zero_add, Nat.reduceAdd] at CC
          go_simp
        try simp only [List.getElem_toArray, List.getElem_cons_succ, List.getElem_cons_zero, Act.put, List.setIfInBounds_toArray, List.set_cons_zero, List.set_cons_succ]
        refine wpAnyH_ready (rs := [1]) (by kernel_rfl) (by simp) ?_
        refine AllReadyH.cons rfl (fun K hK => ?_) AllReadyH.nil
        go_simp
        refine (G17.at _).mono ?_; rintro e w' ⟨rfl, hb⟩
        refine hK.out _ _ (St.ext hHeld hb) (fun hHeld => ?_)
        clear hK K hb
        try simp only [List.getElem_toArray, List.getElem_cons_succ, List.getElem_cons_zero, Act.put, List.setIfInBounds_toArray, List.set_cons_zero, List.set_cons_succ]
        refine wpAnyH_ready (rs := [2]) (by kernel_rfl) (by simp) ?_
        refine AllReadyH.cons rfl (fun K hK => ?_) AllReadyH.nil
        go_simp
        refine (G23.at _).mono ?_; rintro e w' ⟨rfl, hb⟩
        refine hK.out _ _ (St.ext hHeld hb) (fun hHeld => ?_)
        clear hK K hb
        try simp only [List.getElem_toArray, List.getElem_cons_succ, List.getElem_cons_zero, Act.put, List.setIfInBounds_toArray, List.set_cons_zero, List.set_cons_succ]
        refine wpAnyH_take (i := 3) (v := .bool false) rfl (by kernel_rfl) (by kernel_rfl) (by kernel_rfl) (fun _ _ _ h => h) (Or.inl ⟨rfl, fun wx hS => ?_⟩) hHeld ?_
        · go_simp
        try simp only [List.getElem_toArray, List.getElem_cons_succ, List.getElem_cons_zero, Act.put, List.setIfInBounds_toArray, List.set_cons_zero, List.set_cons_succ]
        refine wpAnyH_take (i := 4) (v := .bool false) rfl (by kernel_rfl) (by kernel_rfl) (by kernel_rfl) (fun _ _ _ h => h) (Or.inl ⟨rfl, fun wx hS => ?_⟩) hHeld ?_
        · go_simp
        try simp only [List.getElem_toArray, List.getElem_cons_succ, List.getElem_cons_zero, Act.put, List.setIfInBounds_toArray, List.set_cons_zero, List.set_cons_succ]
        refine wpAnyH_take (i := 5) (v := undef) rfl ?h5_1 ?h5_2 ?h5_3 ?h5_4 (Or.inr ⟨?h5_5, rfl⟩) hHeld ?_
        case h5_1 => kernel_rfl
        case h5_2 => kernel_rfl
        case h5_3 => kernel_rfl
        case h5_4 => exact (fun _ _ _ h => h)
        case h5_5 => kernel_rfl
        try simp only [List.getElem_toArray, List.getElem_cons_succ, List.getElem_cons_zero, Act.put, List.setIfInBounds_toArray, List.set_cons_zero, List.set_cons_succ]
        refine wpAnyH_take (i := 6) (v := undef) rfl ?h6_1 ?h6_2 ?h6_3 ?h6_4 (Or.inr ⟨?h6_5, rfl⟩) hHeld ?_
        case h6_1 => kernel_rfl
        case h6_2 => kernel_rfl
        case h6_3 => kernel_rfl
        case h6_4 => exact (fun _ _ _ h => h)
        case h6_5 => kernel_rfl
        try simp only [List.getElem_toArray, List.getElem_cons_succ, List.getElem_cons_zero, Act.put, List.setIfInBounds_toArray, List.set_cons_zero, List.set_cons_succ]
        refine wpAnyH_take (i := 7) (v := undef) rfl ?h7_1 ?h7_2 ?h7_3 ?h7_4 (Or.inr ⟨?h7_5, rfl⟩) hHeld ?_
        case h7_1 => kernel_rfl
        case h7_2 => kernel_rfl
        case h7_3 => kernel_rfl
        case h7_4 => exact (fun _ _ _ h => h)
        case h7_5 => kernel_rfl
        try simp only [List.getElem_toArray, List.getElem_cons_succ, List.getElem_cons_zero, Act.put, List.setIfInBounds_toArray, List.set_cons_zero, List.set_cons_succ]
        refine wpAnyH_take (i := 8) (v := undef) rfl ?h8_1 ?h8_2 ?h8_3 ?h8_4 (Or.inr ⟨?h8_5, rfl⟩) hHeld ?_
        case h8_1 => kernel_rfl
        case h8_2 => kernel_rfl
        case h8_3 => kernel_rfl
        case h8_4 => exact (fun _ _ _ h => h)
        case h8_5 => kernel_rfl
        try simp only [List.getElem_toArray, List.getElem_cons_succ, List.getElem_cons_zero, Act.put, List.setIfInBounds_toArray, List.set_cons_zero, List.set_cons_succ]
        refine wpAnyH_take (i := 9) (v := undef) rfl ?h9_1 ?h9_2 ?h9_3 ?h9_4 (Or.inr ⟨?h9_5, rfl⟩) hHeld ?_
        case h9_1 => kernel_rfl
        case h9_2 => kernel_rfl
        case h9_3 => kernel_rfl
        case h9_4 => exact (fun _ _ _ h => h)
        case h9_5 => kernel_rfl
        try simp only [List.getElem_toArray, List.getElem_cons_succ, List.getElem_cons_zero, Act.put, List.setIfInBounds_toArray, List.set_cons_zero, List.set_cons_succ]
        refine wpAnyH_take (i := 10) (v := undef) rfl ?h10_1 ?h10_2 ?h10_3 ?h10_4 (Or.inr ⟨?h10_5, rfl⟩) hHeld ?_
        case h10_1 => kernel_rfl
        case h10_2 => kernel_rfl
        case h10_3 => kernel_rfl
        case h10_4 => exact (fun _ _ _ h => h)
        case h10_5 => kernel_rfl
        try simp only [List.getElem_toArray, List.getElem_cons_succ, List.getElem_cons_zero, Act.put, List.setIfInBounds_toArray, List.set_cons_zero, List.set_cons_succ]
        refine wpAnyH_take (i := 11) (v := undef) rfl ?h11_1 ?h11_2 ?h11_3 ?h11_4 (Or.inr ⟨?h11_5, rfl⟩) hHeld ?_
        case h11_1 => kernel_rfl
        case h11_2 => kernel_rfl
        case h11_3 => kernel_rfl
        case h11_4 => exact (fun _ _ _ h => h)
        case h11_5 => kernel_rfl
        try simp only [List.getElem_toArray, List.getElem_cons_succ, List.getElem_cons_zero, Act.put, List.setIfInBounds_toArray, List.set_cons_zero, List.set_cons_succ]
        refine wpAnyH_take (i := 12) (v := undef) rfl ?h12_1 ?h12_2 ?h12_3 ?h12_4 (Or.inr ⟨?h12_5, rfl⟩) hHeld ?_
        case h12_1 => kernel_rfl
        case h12_2 => kernel_rfl
        case h12_3 => kernel_rfl
        case h12_4 => exact (fun _ _ _ h => h)
        case h12_5 => kernel_rfl
        try simp only [List.getElem_toArray, List.getElem_cons_succ, List.getElem_cons_zero, Act.put, List.setIfInBounds_toArray, List.set_cons_zero, List.set_cons_succ]
        refine wpAnyH_take (i := 13) (v := undef) rfl ?h13_1 ?h13_2 ?h13_3 ?h13_4 (Or.inr ⟨?h13_5, rfl⟩) hHeld ?_
        case h13_1 => kernel_rfl
        case h13_2 => kernel_rfl
        case h13_3 => kernel_rfl
        case h13_4 => exact (fun _ _ _ h => h)
        case h13_5 => kernel_rfl
        try simp only [List.getElem_toArray, List.getElem_cons_succ, List.getElem_cons_zero, Act.put, List.setIfInBounds_toArray, List.set_cons_zero, List.set_cons_succ]
        try simp only [List.getElem_toArray, List.getElem_cons_succ, List.getElem_cons_zero, Act.put, List.setIfInBounds_toArray, List.set_cons_zero, List.set_cons_succ]
        refine wpAnyH_take (i := 14) (v := .bool false) rfl (by kernel_rfl) (by kernel_rfl) (by kernel_rfl) (fun _ _ _ h => h) (Or.inl ⟨rfl, fun wx hS => ?_⟩) hHeld ?_
        · go_simp
        try simp only [List.getElem_toArray, List.getElem_cons_succ, List.getElem_cons_zero, Act.put, List.setIfInBounds_toArray, List.set_cons_zero, List.set_cons_succ]
        refine wpAnyH_done (by kernel_rfl) ?_ _
        go_wp2_with fail
        go_meet
        exact ⟨rfl, hHeld⟩
  case rest =>
  clear S3
  obtain ⟨rfl, S3⟩ := hcut
  go_upto_region 18 with fail
  --M18
  go_region_held3 (fun wx => St w wx [(w.heap.size, 24, [.bool ga, .string na, .string da]), (w.heap.size + 1, 24, [.bool gb, .string nb_, .string db]), (w.heap.size + 1 + 1, 24, [.bool gc, .string nc, .string dc]), (w2.heap.size, 24, [.bool (cg s), .string (cn s), .string (cd s)]), (w3.heap.size, 24, [.bool (cg p), .string (cn p), .string (cd p)]), (w4.heap.size, 24, [.bool gq, .string nq, .string dq])] ∧
    wx.cell? ⟨w.heap.size, 0, none⟩ = some (.bool ga) ∧ wx.cell? ⟨w.heap.size, 1, none⟩ = some (.string na) ∧ wx.cell? ⟨w.heap.size, 2, none⟩ = some (.string da) ∧ wx.cell? ⟨w.heap.size + 1, 0, none⟩ = some (.bool gb) ∧ wx.cell? ⟨w.heap.size + 1, 1, none⟩ = some (.string nb_) ∧ wx.cell? ⟨w.heap.size + 1, 2, none⟩ = some (.string db) ∧ wx.cell? ⟨w.heap.size + 1 + 1, 0, none⟩ = some (.bool gc) ∧ wx.cell? ⟨w.heap.size + 1 + 1, 1, none⟩ = some (.string nc) ∧ wx.cell? ⟨w.heap.size + 1 + 1, 2, none⟩ = some (.string dc) ∧ wx.cell? ⟨w2.heap.size, 0, none⟩ = some (.bool (cg s)) ∧ wx.cell? ⟨w2.heap.size, 1, none⟩ = some (.string (cn s)) ∧ wx.cell? ⟨w2.heap.size, 2, none⟩ = some (.string (cd s)) ∧ wx.cell? ⟨w3.heap.size, 0, none⟩ = some (.bool (cg p)) ∧ wx.cell? ⟨w3.heap.size, 1, none⟩ = some (.string (cn p)) ∧ wx.cell? ⟨w3.heap.size, 2, none⟩ = some (.string (cd p)) ∧ wx.cell? ⟨w4.heap.size, 0, none⟩ = some (.bool gq) ∧ wx.cell? ⟨w4.heap.size, 1, none⟩ = some (.string nq) ∧ wx.cell? ⟨w4.heap.size, 2, none⟩ = some (.string dq))
    (first | with_reducible exact SOF.out _ TT | with_reducible exact SOF.out _ (St.drew (by with_reducible assumption)) | with_reducible exact SOF.out _ (St.alloc' (And.left (by with_reducible assumption)) _))
    (first | (go_at_call 21; refine (HGS.out _ _ (Fl.lit3d (by simp) _ _ _ _ _ _ _ _ _ _)).mono ?_; rintro e w' ⟨rfl, hb⟩; have TT := St.ext (And.left (by with_reducible assumption)) hb) | (first | (go_at_call 14; (first | with_reducible refine (G1.at _).mono ?_ | with_reducible refine (G2.at _).mono ?_ | with_reducible refine (G5.at _).mono ?_ | with_reducible refine (G6.at _).mono ?_ | with_reducible refine (G7.at _).mono ?_ | with_reducible refine (G13.at _).mono ?_ | with_reducible refine (G21.at _).mono ?_); rintro e w' ⟨rfl, hb⟩; have TT := St.ext (And.left (by with_reducible assumption)) hb) | (go_at_call 15; (first | with_reducible refine (G3.at _).mono ?_ | with_reducible refine (G4.at _).mono ?_ | with_reducible refine (G8.at _).mono ?_ | with_reducible refine (G9.at _).mono ?_ | with_reducible refine (G10.at _).mono ?_ | with_reducible refine (G11.at _).mono ?_ | with_reducible refine (G12.at _).mono ?_); rintro e w' ⟨rfl, hb⟩; have TT := St.ext (And.left (by with_reducible assumption)) hb) | (go_at_call 16; (first | with_reducible refine (G14.at _).mono ?_ | with_reducible refine (G16.at _).mono ?_); rintro e w' ⟨rfl, hb⟩; have TT := St.ext (And.left (by with_reducible assumption)) hb) | (go_at_call 17; (first | with_reducible refine (G15.at _).mono ?_ | with_reducible refine (G18.at _).mono ?_ | with_reducible refine (G24.at _).mono ?_); rintro e w' ⟨rfl, hb⟩; have TT := St.ext (And.left (by with_reducible assumption)) hb) | (go_at_call 18; (first | with_reducible refine (G17.at _).mono ?_ | with_reducible refine (G25.at _).mono ?_); rintro e w' ⟨rfl, hb⟩; have TT := St.ext (And.left (by with_reducible assumption)) hb) | (go_at_call 20; (first | with_reducible refine (G19.at _).mono ?_ | with_reducible refine (G20.at _).mono ?_ | with_reducible refine (G22.at _).mono ?_ | with_reducible refine (G23.at _).mono ?_ | with_reducible refine (G26.at _).mono ?_); rintro e w' ⟨rfl, hb⟩; have TT := St.ext (And.left (by with_reducible assumption)) hb) | (go_at_call 19; (first | with_reducible refine (G27.at _).mono ?_); rintro e w' ⟨rfl, hb⟩; have TT := St.ext (And.left (by with_reducible assumption)) hb)))
  all_goals (go_wp2_with fail; go_ret)
  all_goals exact ⟨rfl, St.below (by assumption)⟩
end Go.Proofs.YtlloghbaggdhnaaDoor
