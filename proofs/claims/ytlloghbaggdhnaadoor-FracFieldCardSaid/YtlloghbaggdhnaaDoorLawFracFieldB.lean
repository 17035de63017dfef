/- The law FracField: it returns true. Condition: parts within the form's own reach. -/
import Derived.Test.YtlloghbaggdhnaaDoorLawFracField
set_option linter.unusedVariables false
set_option linter.unusedSimpArgs false
namespace Go.Proofs.YtlloghbaggdhnaaDoor
open Go Go.RowKit

set_option maxRecDepth 100000 in
set_option maxHeartbeats 2000000 in
theorem fracField_great (ga : Bool) (na da : ByteArray) (gb : Bool) (nb_ db : ByteArray) (gc : Bool) (nc dc : ByteArray) (w : World)
    (hl : ∀ x ∈ [(ga, na, da), (gb, nb_, db), (gc, nc, dc)], x.2.1.size ≤ 140737488355328 ∧ x.2.2.size ≤ 140737488355328)
    (h200 : 200 < fbytes [(ga, na, da), (gb, nb_, db), (gc, nc, dc)]) :
    Calls Tryd.prog 3 #[.agg #[.bool ga, .string na, .string da], .agg #[.bool gb, .string nb_, .string db], .agg #[.bool gc, .string nc, .string dc]] w (RetBool w true) := by
  have S0 := (((St.new w).alloc #[.bool ga, .string na, .string da] 24).alloc #[.bool gb, .string nb_, .string db] 24).alloc #[.bool gc, .string nc, .string dc] 24
  have C0 := S0.c
  simp only [List.nil_append, List.cons_append, World.size_alloc] at S0 C0
  simp only [cellsAll, cellsAt, and_true, Nat.zero_add, Nat.reduceAdd] at C0
  have HL := Lib.hid (And.intro hl h200)
  clear hl h200
  go_enter Tryd.func3, Tryd.ntmps3
  go_wp2_with fail
  refine (bytes_any [(ga, na, da), (gb, nb_, db), (gc, nc, dc)] _ _ (Fl.lit3 (by simp) _ _ _ _ _ _ _ _ _ _) (show (3 : Nat) ≤ 140737488355328 by decide) HL.out.1).mono ?_
  rintro e w1 ⟨n, rfl, ⟨hn, _⟩, m, rfl⟩
  have hn3 : (200 : Int) < n := by
    have := HL.out.2
    rcases Nat.lt_or_ge 4096 n with h | h
    · omega
    · have := hn h; omega
  clear hn C0
  have S1 := (S0.alloc' (.cells #[.bool ga, .string na, .string da, .bool gb, .string nb_, .string db, .bool gc, .string nc, .string dc] 24)).drewN m
  go_wp2_with fail
  go_ret
  exact ⟨rfl, S1.below⟩

theorem cmp_one_zero : cmpR 1 0 = 1 := by decide
theorem cmpR_range (x y : Rat) : cmpR x y = 0 ∨ cmpR x y = 1 ∨ cmpR x y = -1 := by
  unfold cmpR
  by_cases h : x = y
  · simp [h]
  · by_cases h2 : x < y <;> simp [h, h2]
set_option maxRecDepth 100000 in
set_option maxHeartbeats 2000000 in
theorem fracField_small (ga : Bool) (na da : ByteArray) (gb : Bool) (nb_ db : ByteArray) (gc : Bool) (nc dc : ByteArray) (w : World)
    (hl : ∀ x ∈ [(ga, na, da), (gb, nb_, db), (gc, nc, dc)], x.2.1.size ≤ 140737488355328 ∧ x.2.2.size ≤ 140737488355328)
    (h200 : fbytes [(ga, na, da), (gb, nb_, db), (gc, nc, dc)] ≤ 200) :
    Calls Tryd.prog 3 #[.agg #[.bool ga, .string na, .string da], .agg #[.bool gb, .string nb_, .string db], .agg #[.bool gc, .string nc, .string dc]] w (RetBool w true) := by
  have hs := h200
  simp only [fbytes, List.map_cons, List.map_nil, List.sum_cons, List.sum_nil] at hs
  obtain ⟨x, hx⟩ : ∃ x, rv ga na da = x := ⟨_, rfl⟩
  obtain ⟨y, hy⟩ : ∃ y, rv gb nb_ db = y := ⟨_, rfl⟩
  obtain ⟨z, hz⟩ : ∃ z, rv gc nc dc = z := ⟨_, rfl⟩
  have Ia : Is ga na da x 200 := ⟨hx, by omega, by omega⟩
  have Ib : Is gb nb_ db y 200 := ⟨hy, by omega, by omega⟩
  have Ic : Is gc nc dc z 200 := ⟨hz, by omega, by omega⟩
  have fx := Ia.fz (by omega)
  have fy := Ib.fz (by omega)
  have fz := Ic.fz (by omega)
  have Ja := Ia.up (k := 2000) (by omega)
  have Jb := Ib.up (k := 2000) (by omega)
  have Jc := Ic.up (k := 2000) (by omega)
  have Js := (Is.c (fx.add fy)).up (k := 2000) (by omega)
  have Jp := (Is.c (fx.mul fy)).up (k := 2000) (by omega)
  have Jyz := (Is.c (fy.add fz)).up (k := 2000) (by omega)
  have Jm := (Is.c (fy.mul fz)).up (k := 2000) (by omega)
  have Jxz := (Is.c (fx.mul fz)).up (k := 2000) (by omega)
  have Jxc := (Is.c (fx.add fz)).up (k := 2000) (by omega)
  have Jx := (Is.c fx).up (k := 2000) (by omega)
  have J0 := (Is.c (q := 0) (Fz.int (n := 0) (by decide))).up (k := 2000) (by omega)
  have J1 := (Is.c (q := 1) (Fz.int (n := 1) (by decide))).up (k := 2000) (by omega)
  have h0 : 1 ≤ 2000 := by omega
  have hk : 2000 ≤ 34359738368 := by omega
  have hkk : IntKind.i64.wrap (-cmpR y x) = cmpR x y := by
    rw [cmpR_swap x y]
    rcases cmpR_range y x with h | h | h <;> rw [h] <;> rfl
  have hxy : (cmpR x y = 0 ∧ x = y) ∨ (cmpR x y ≠ 0 ∧ x ≠ y) := by
    by_cases h : x = y
    · exact .inl ⟨(cmpR_zero x y).2 h, h⟩
    · exact .inr ⟨fun e => h ((cmpR_zero x y).1 e), h⟩
  have GS : ∀ (v : Value) (w : World), Fl w v [(ga, na, da), (gb, nb_, db), (gc, nc, dc)] → Calls Tryd.prog 21 #[v] w fun e w' => e = .returned (fv (x + y + z)) ∧ Below w.heap.size w w' := by
    intro v w hv
    have := fsum_any [(ga, na, da), (gb, nb_, db), (gc, nc, dc)] v w hv (k := 200) (by omega) (by show 4 * 201 + 8 ≤ _; omega) (by
      intro u hu
      simp only [List.mem_cons, List.not_mem_nil, or_false] at hu
      rcases hu with rfl | rfl | rfl
      · exact Ia.2
      · exact Ib.2
      · exact Ic.2)
    have e : (List.map rv3 [(ga, na, da), (gb, nb_, db), (gc, nc, dc)]).foldl (· + ·) 0 = x + y + z := by
      show 0 + rv ga na da + rv gb nb_ db + rv gc nc dc = _
      rw [hx, hy, hz, Rat.zero_add]
    rw [e] at this
    exact this
  have main := fun gq nq dq de G27 zb hyo => fracField_core ga na da gb nb_ db gc nc dc w (x + y) (x * y) (x + y + z) (y + z) (x * y * z) (y * z) ((x + y) * z) (x * z) x 0 y (x + z) 1 undef (cmpR x y) (cmpR y x) (cmpR z 0) hl h200
    (fadd_g Ja Jb h0 hk rfl) (fadd_g Jb Ja h0 hk (Rat.add_comm y x)) (fmul_g Ja Jb h0 hk rfl) (fmul_g Jb Ja h0 hk (Rat.mul_comm y x)) (fadd_g Js Jc h0 hk rfl) (fadd_g Jb Jc h0 hk rfl) (fadd_g Ja Jyz h0 hk (Rat.add_assoc x y z).symm)
    (fmul_g Jp Jc h0 hk rfl) (fmul_g Jb Jc h0 hk rfl) (fmul_g Ja Jm h0 hk (Rat.mul_assoc x y z).symm) (fmul_g Js Jc h0 hk rfl) (fmul_g Ja Jc h0 hk rfl) (fadd_g Jxz Jm h0 hk (Rat.add_mul x y z).symm)
    (fsub_g Js Jb h0 hk Rat.add_sub_cancel) (fcanon_g Ja hk) (fsub_g Ja Ja h0 hk Rat.sub_self) (fof_g (n := 0) (by omega) (by omega)) (fcanon_g Jb hk) (fcmp_g Ja Jb h0 hk rfl) (fcmp_g Jb Ja h0 hk rfl)
    (fadd_g Ja Jc h0 hk rfl) (fcmp_g Jxc Jyz h0 hk (cmpR_add x y z)) (fcmp_g Jc J0 h0 hk rfl) (fcanon_g Jx hk) (fof_g (n := 1) (by omega) (by omega)) (fcmp_g J1 J0 h0 hk cmp_one_zero)
    gq nq dq de G27 zb hyo hkk hxy (fun hc => fcmp_g Jxz Jm h0 hk (rat_pos_mul (cmpR_pos z hc))) GS
  by_cases h : y = 0
  · exact main _ _ _ _ (fdiv_g0 (h ▸ Jb) h0 hk) true (.inl ⟨rfl, h, rfl⟩)
  · exact main _ _ _ _ (fdiv_g Jp Jb h0 hk h (Rat.mul_div_cancel h)) false (.inr ⟨rfl, h, rfl, rfl, rfl, rfl⟩)

theorem fracField_any (ga : Bool) (na da : ByteArray) (gb : Bool) (nb_ db : ByteArray) (gc : Bool) (nc dc : ByteArray) (w : World)
    (hl : ∀ x ∈ [(ga, na, da), (gb, nb_, db), (gc, nc, dc)], x.2.1.size ≤ 140737488355328 ∧ x.2.2.size ≤ 140737488355328) :
    Calls Tryd.prog 3 #[.agg #[.bool ga, .string na, .string da], .agg #[.bool gb, .string nb_, .string db], .agg #[.bool gc, .string nc, .string dc]] w (RetBool w true) := by
  rcases Nat.lt_or_ge 200 (fbytes [(ga, na, da), (gb, nb_, db), (gc, nc, dc)]) with h | h
  · exact fracField_great ga na da gb nb_ db gc nc dc w hl h
  · exact fracField_small ga na da gb nb_ db gc nc dc w hl h
end Go.Proofs.YtlloghbaggdhnaaDoor
