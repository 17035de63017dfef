/- Walks: frac.Of, frac.Make, frac.Canon, frac.whole. Conditions: strings within 2^37 bytes. -/
import Derived.Test.YtlloghbaggdhnaaDoorFracP
set_option linter.unusedVariables false
set_option linter.unusedSimpArgs false
namespace Go.Proofs.YtlloghbaggdhnaaDoor
open Go Go.RowKit
open Go.IntWalk (wrap64_in)

/-- A block that holds a fraction. -/
def Fc (w : World) (b : Nat) (g : Bool) (n d : ByteArray) : Prop := Blk w b 24 [.bool g, .string n, .string d]
theorem Fc.c {w : World} {b : Nat} {g : Bool} {n d : ByteArray} (h : Fc w b g n d) :
    w.cell? ⟨b, 0, none⟩ = some (.bool g) ∧ w.cell? ⟨b, 1, none⟩ = some (.string n) ∧ w.cell? ⟨b, 2, none⟩ = some (.string d) ∧ w.frozen? ⟨b, 0, none⟩ = false ∧ w.frozen? ⟨b, 1, none⟩ = false ∧ w.frozen? ⟨b, 2, none⟩ = false :=
  ⟨Blk.cell h 0 (by simp), Blk.cell h 1 (by simp), Blk.cell h 2 (by simp), Blk.frozen h 0, Blk.frozen h 1, Blk.frozen h 2⟩
theorem Fc.new (w : World) (g : Bool) (n d : ByteArray) : Fc (w.alloc (.cells #[.bool g, .string n, .string d] 24)) w.heap.size g n d := Blk.newA w _ _
theorem Fc.new' {w : World} {b : Nat} (g : Bool) (n d : ByteArray) (h : b = w.heap.size) : Fc (w.alloc (.cells #[.bool g, .string n, .string d] 24)) b g n d := h ▸ Fc.new w g n d
theorem Fc.ext {w w' : World} {b : Nat} {g : Bool} {n d : ByteArray} (h : Fc w b g n d) (hb : Below w.heap.size w w') : Fc w' b g n d := Blk.ext h hb
theorem Fc.put {w : World} {b : Nat} {g : Bool} {n d : ByteArray} (h : Fc w b g n d) (g' : Bool) (n' d' : ByteArray) :
    Fc (((w.setCell ⟨b, 0, none⟩ (.bool g')).setCell ⟨b, 1, none⟩ (.string n')).setCell ⟨b, 2, none⟩ (.string d')) b g' n' d' := ((Blk.set h 0 _).set 1 _).set 2 _
theorem Fc.alloc {w : World} {b : Nat} {g : Bool} {n d : ByteArray} (h : Fc w b g n d) (o : Obj) : Fc (w.alloc o) b g n d := Blk.alloc h o
theorem Fc.setOther {w : World} {b : Nat} {g : Bool} {n d : ByteArray} (h : Fc w b g n d) {a : Addr} (ha : a.block ≠ b) (u : Value) : Fc (w.setCell a u) b g n d := Blk.setOther h ha u
def RetFr (w : World) (q : Rat) (e : Ending) (w' : World) : Prop := e = .returned (frv q) ∧ Below w.heap.size w w'

theorem toList_not_one {n : Nat} (h : ¬ n = 1) : ¬ (ns n).toList = [1] := by
  rw [toList_bytes, ns_toList, show ([1] : List UInt8) = nb 1 by rw [nb_pos 1 (by omega), nb_zero]; rfl]
  exact fun e => h (nb_inj e)
theorem bl_put {B : Nat} {w0 w : World} (h : Below B w0 w) {b : Nat} (hb : B ≤ b) (g u v : Value) :
    Below B w0 (((w.setCell ⟨b, 0, none⟩ g).setCell ⟨b, 1, none⟩ u).setCell ⟨b, 2, none⟩ v) := ((h.setCell hb _).setCell hb _).setCell hb _
/-- A call behind a new block. -/
theorem bl_new {B : Nat} {w0 w w' : World} {o : Obj} (h : Below B w0 w) (hB : B ≤ w.heap.size) (hb : Below (w.alloc o).heap.size (w.alloc o) w') : Below B w0 w' :=
  (h.alloc hB o).trans (hb.mono (Nat.le_trans hB (by simp)))
theorem results_fc {fn : Func} {p : Tmp} {tmps : Array Value} {w : World} {b : Nat} {g : Bool} {n d : ByteArray} (h : fn.results = #[.cell p 24])
    (ht : tmps.getD p undef = .pointer (some ⟨b, 0, none⟩)) (hf : Fc w b g n d) : (results fn tmps).run Tryd.prog w = .ok (agf g n d) w := by
  obtain ⟨c0, c1, c2, f0, f1, f2⟩ := hf.c
  have ht' : tmps[p]?.getD undef = .pointer (some ⟨b, 0, none⟩) := by simpa using ht
  simp [results, h, ht', go_sem, agf, c0, c1, c2]

set_option maxRecDepth 100000 in
set_option maxHeartbeats 1000000 in
theorem fof_pos (n : Nat) (w : World) (hn : n ≤ 9223372036854775807) :
    Calls Tryd.prog 18 #[.int .i64 n] w (RetFr w (n : Int)) := by
  have HE := Lib.hid (frv_nat n)
  have HO := Lib.hid (fun w => of_any (n : Int) w (by omega) (by omega))
  go_enter Tryd.func18, Tryd.ntmps18
  go_wp2_with fail
  refine (HO.out _).mono ?_; rintro e w1 ⟨rfl, hb1⟩
  rw [show ((n : Int)).toNat = n by simp]
  obtain ⟨c0, c1, c2, f0, f1, f2⟩ := ((Fc.new w false ⟨#[]⟩ ⟨#[]⟩).ext hb1).c
  go_wp2_with fail
  refine bodyPost_ret (results_fc rfl rfl (((Fc.new w false ⟨#[]⟩ ⟨#[]⟩).ext hb1).put _ _ _)) rfl ?_
  exact ⟨by rw [HE.out], bl_put (bl_new (Below.refl _ _) (Nat.le_refl _) hb1) (Nat.le_refl _) _ _ _⟩
set_option maxRecDepth 100000 in
set_option maxHeartbeats 1000000 in
theorem fof_neg (m : Nat) (w : World) (hn : m + 1 ≤ 9223372036854775808) :
    Calls Tryd.prog 18 #[.int .i64 (-((m + 1 : Nat) : Int))] w (RetFr w (-((m + 1 : Nat) : Int) : Int)) := by
  have HE := Lib.hid (frv_negnat (m + 1) (by omega))
  have HO := Lib.hid (fun w => of_any (m : Int) w (by omega) (by omega))
  have HA := Lib.hid (fun w => add_any (ns m) ⟨#[1]⟩ w (by have := nb_length_lt (n := m) (k := 8) (by omega); rw [ns_size]; omega) (by show (1 : Nat) ≤ _; omega))
  have hv1 : vn ⟨#[1]⟩ = 1 := by decide
  have e1 : (-((m + 1 : Nat) : Int)) + 1 = -(m : Int) := by omega
  have e2 : IntKind.i64.wrap (-(m : Int)) = -(m : Int) := by rw [IntKind.wrap_i64]; omega
  have e3 : IntKind.i64.wrap (m : Int) = (m : Int) := by rw [IntKind.wrap_i64]; omega
  have n1 : (-((m + 1 : Nat) : Int)) < 0 := by omega
  generalize hx : (-((m + 1 : Nat) : Int)) = x at *
  go_enter Tryd.func18, Tryd.ntmps18
  go_wp2_with fail
  refine (HO.out _).mono ?_; rintro e w1 ⟨rfl, hb1⟩
  rw [show ((m : Int)).toNat = m by simp]
  go_wp2_with fail
  refine (HA.out _).mono ?_; rintro e w2 ⟨rfl, hb2⟩
  rw [vn_ns, hv1]
  have hF := ((Fc.new w false ⟨#[]⟩ ⟨#[]⟩).ext hb1).ext hb2
  obtain ⟨c0, c1, c2, f0, f1, f2⟩ := hF.c
  go_wp2_with fail
  refine bodyPost_ret (results_fc rfl rfl (hF.put _ _ _)) rfl ?_
  exact ⟨by rw [HE.out], bl_put ((bl_new (Below.refl _ _) (Nat.le_refl _) hb1).trans (hb2.mono (by have := hb1.size; simp at this; omega))) (Nat.le_refl _) _ _ _⟩
theorem fof_any (n : Int) (w : World) (h1 : -9223372036854775808 ≤ n) (h2 : n ≤ 9223372036854775807) :
    Calls Tryd.prog 18 #[.int .i64 n] w (RetFr w n) := by
  by_cases h : 0 ≤ n
  · obtain ⟨k, rfl⟩ := Int.eq_ofNat_of_zero_le h
    exact fof_pos k w (by omega)
  · obtain ⟨k, hk⟩ := Int.eq_ofNat_of_zero_le (a := -n) (by omega)
    obtain ⟨m, rfl⟩ : ∃ m, k = m + 1 := ⟨k - 1, by omega⟩
    have e : n = -((m + 1 : Nat) : Int) := by omega
    subst e
    exact fof_neg m w (by omega)
theorem fof_zero (w : World) : Calls Tryd.prog 18 #[.int .i64 0] w fun e w' => e = .returned (.agg #[.bool false, .string ⟨#[]⟩, .string ⟨#[1]⟩]) ∧ Below w.heap.size w w' := by
  have h := fof_pos 0 w (by omega)
  refine h.mono ?_; rintro e w' ⟨rfl, hb⟩
  exact ⟨by rw [frv_nat, ns_zero]; rfl, hb⟩

set_option maxRecDepth 100000 in
set_option maxHeartbeats 1000000 in
theorem fmake_any (g : Bool) (n d : ByteArray) (w : World) (hn : n.size ≤ 137438953472) (hd : d.size ≤ 137438953472) :
    Calls Tryd.prog 70 #[.bool g, .string n, .string d] w (RetFr w (rv g n d)) := by
  have T1 := Lib.hid (fun w => trim_any n w (by unfold maxLen; omega))
  have T2 := Lib.hid (fun w => trim_any d w (by unfold maxLen; omega))
  have hF := fun w => Fc.new w false ⟨#[]⟩ ⟨#[]⟩
  have hZ := fun w => fof_zero w
  have HF := Lib.hid hF
  have HZ := Lib.hid hZ
  clear hF hZ
  by_cases hnz : vn n = 0
  · have hz := Lib.hid (show frv (rv g n d) = _ by rw [rv_zero (.inl hnz), frv_zero])
    have n1 := toList_nil (ns 0) (by rw [ns_zero]; rfl)
    rw [hnz] at T1
    generalize vn d = y at *
    go_enter Tryd.func70, Tryd.ntmps70
    go_wp2_with fail
    refine (T1.out _).mono ?_; rintro e w' ⟨rfl, rfl⟩
    go_wp2_with fail
    refine (T2.out _).mono ?_; rintro e w' ⟨rfl, rfl⟩
    go_wp2_with fail
    refine (HZ.out _).mono ?_; rintro e w1 ⟨rfl, hb1⟩
    have hF := (HF.out w).ext hb1
    obtain ⟨c0, c1, c2, f0, f1, f2⟩ := hF.c
    go_wp2_with fail
    refine bodyPost_ret (results_fc rfl rfl (hF.put _ _ _)) rfl ?_
    exact ⟨by rw [hz.out], bl_put (bl_new (Below.refl _ _) (Nat.le_refl _) hb1) (Nat.le_refl _) _ _ _⟩
  have n1 := toList_ne (ns (vn n)) (ns_pos_size hnz)
  have n2 := isEmpty_false (ns (vn n)) (ns_pos_size hnz)
  by_cases hdz : vn d = 0
  · have hz := Lib.hid (show frv (rv g n d) = _ by rw [rv_zero (.inr hdz), frv_zero])
    have n3 := toList_nil (ns 0) (by rw [ns_zero]; rfl)
    rw [hdz] at T2
    clear hnz
    generalize vn n = x at *
    go_enter Tryd.func70, Tryd.ntmps70
    go_wp2_with fail
    refine (T1.out _).mono ?_; rintro e w' ⟨rfl, rfl⟩
    go_wp2_with fail
    refine (T2.out _).mono ?_; rintro e w' ⟨rfl, rfl⟩
    go_wp2_with fail
    refine (HZ.out _).mono ?_; rintro e w1 ⟨rfl, hb1⟩
    have hF := (HF.out w).ext hb1
    obtain ⟨c0, c1, c2, f0, f1, f2⟩ := hF.c
    go_wp2_with fail
    refine bodyPost_ret (results_fc rfl rfl (hF.put _ _ _)) rfl ?_
    exact ⟨by rw [hz.out], bl_put (bl_new (Below.refl _ _) (Nat.le_refl _) hb1) (Nat.le_refl _) _ _ _⟩
  have n3 := toList_ne (ns (vn d)) (ns_pos_size hdz)
  have n4 := isEmpty_false (ns (vn d)) (ns_pos_size hdz)
  have he := Lib.hid (frv_make (neg := g) hnz hdz)
  have s1 := ns_size_le n
  have s2 := ns_size_le d
  have hg0 : Nat.gcd (vn n) (vn d) ≠ 0 := fun e => hnz (Nat.gcd_eq_zero_iff.1 e).1
  have gle : (ns (Nat.gcd (vn n) (vn d))).size ≤ (ns (vn n)).size := by rw [ns_size, ns_size]; exact nb_mono (Nat.le_of_dvd (by omega) (Nat.gcd_dvd_left _ _))
  have G1 := Lib.hid (fun w => gcd_any (ns (vn n)) (ns (vn d)) w (by omega) (by omega))
  have D1 := Lib.hid (fun w => div_any (ns (vn n)) (ns (Nat.gcd (vn n) (vn d))) w (by omega) (by omega) (by rw [vn_ns]; exact hg0))
  have D2 := Lib.hid (fun w => div_any (ns (vn d)) (ns (Nat.gcd (vn n) (vn d))) w (by omega) (by omega) (by rw [vn_ns]; exact hg0))
  simp only [vn_ns] at G1 D1 D2
  clear s1 s2 gle hn hd hnz hdz
  generalize vn n = x at *
  generalize vn d = y at *
  by_cases h1 : Nat.gcd x y = 1
  · rw [h1] at he G1
    have hx : x / 1 = x := Nat.div_one _
    have hy : y / 1 = y := Nat.div_one _
    rw [hx, hy] at he
    clear D1 D2 hg0 h1 hx hy
    have k1 : ns 1 = ⟨#[1]⟩ := ns_one
    go_enter Tryd.func70, Tryd.ntmps70
    go_wp2_with fail
    refine (T1.out _).mono ?_; rintro e w' ⟨rfl, rfl⟩
    go_wp2_with fail
    refine (T2.out _).mono ?_; rintro e w' ⟨rfl, rfl⟩
    go_wp2_with fail
    refine (G1.out _).mono ?_; rintro e w1 ⟨rfl, hb1⟩
    rw [k1]
    have hF := (HF.out w).ext hb1
    obtain ⟨c0, c1, c2, f0, f1, f2⟩ := hF.c
    go_wp2_with fail
    refine bodyPost_ret (results_fc rfl rfl (hF.put _ _ _)) rfl ?_
    exact ⟨by rw [he.out], bl_put (bl_new (Below.refl _ _) (Nat.le_refl _) hb1) (Nat.le_refl _) _ _ _⟩
  · have k1 := toList_not_one h1
    have k2 : ((ns (Nat.gcd x y)).toList == [1]) = false := by simpa using k1
    generalize Nat.gcd x y = z at *
    clear hg0 h1
    go_enter Tryd.func70, Tryd.ntmps70
    go_wp2_with fail
    refine (T1.out _).mono ?_; rintro e w' ⟨rfl, rfl⟩
    go_wp2_with fail
    refine (T2.out _).mono ?_; rintro e w' ⟨rfl, rfl⟩
    go_wp2_with fail
    refine (G1.out _).mono ?_; rintro e w1 ⟨rfl, hb1⟩
    go_wp2_with fail
    refine (D1.out _).mono ?_; rintro e w2 ⟨rfl, hb2⟩
    go_wp2_with fail
    refine (D2.out _).mono ?_; rintro e w3 ⟨rfl, hb3⟩
    have hF := (((HF.out w).ext hb1).ext hb2).ext hb3
    obtain ⟨c0, c1, c2, f0, f1, f2⟩ := hF.c
    go_wp2_with fail
    refine bodyPost_ret (results_fc rfl rfl (hF.put _ _ _)) rfl ?_
    have s1 := hb1.size
    have s2 := hb2.size
    simp at s1
    exact ⟨by rw [he.out], bl_put (((bl_new (Below.refl _ _) (Nat.le_refl _) hb1).trans (hb2.mono (by omega))).trans (hb3.mono (by omega))) (Nat.le_refl _) _ _ _⟩
end Go.Proofs.YtlloghbaggdhnaaDoor
