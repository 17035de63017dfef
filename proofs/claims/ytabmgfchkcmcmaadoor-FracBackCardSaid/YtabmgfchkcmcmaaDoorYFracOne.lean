/- Joined: FracP FracA FracB FracC FracD FracV. Conditions: as said at each part. -/
import Derived.Test.YtabmgfchkcmcmaaDoorYNatTwo
import Derived.BigRegion
import Derived.Deep.DeepCutAuto
import Derived.Deep.RegionHeld3
set_option linter.unusedVariables false
set_option linter.unusedSimpArgs false
namespace Go.Proofs.YtabmgfchkcmcmaaDoor
section
open Go Go.RowKit

theorem mk_num_le (i : Int) (d : Nat) : (mkRat i d).num.natAbs ≤ i.natAbs := by
  rw [Rat.num_mkRat]
  split
  · simp
  · rw [Int.natAbs_ediv_of_dvd (Int.ofNat_dvd_left.2 (Nat.gcd_dvd_right _ _)), Int.natAbs_natCast]
    exact Nat.div_le_self _ _
theorem mk_den_le (i : Int) (d : Nat) (h : d ≠ 0) : (mkRat i d).den ≤ d := by
  rw [Rat.den_mkRat, if_neg h]
  exact Nat.div_le_self _ _
def Fz (q : Rat) (k : Nat) : Prop := q.num.natAbs < 256 ^ k ∧ q.den < 256 ^ k
theorem pow_one_lt {k : Nat} (h : 1 ≤ k) : 1 < 256 ^ k := Nat.lt_of_lt_of_le (by decide) (Nat.pow_le_pow_right (by omega) h)
theorem Fz.mk {i : Int} {d k : Nat} (hi : i.natAbs < 256 ^ k) (hd : d < 256 ^ k) (hk : 1 ≤ k) : Fz (mkRat i d) k := by
  refine ⟨Nat.lt_of_le_of_lt (mk_num_le i d) hi, ?_⟩
  by_cases h : d = 0
  · subst h; rw [Rat.den_mkRat]; simpa using pow_one_lt hk
  · exact Nat.lt_of_le_of_lt (mk_den_le i d h) hd
theorem Fz.pos {q : Rat} {k : Nat} (h : Fz q k) : 1 ≤ k := by
  rcases k with _ | k
  · have := h.2; have := q.den_pos; simp at *; omega
  · omega
theorem Fz.up {q : Rat} {j k : Nat} (h : Fz q j) (hk : j ≤ k) : Fz q k :=
  ⟨Nat.lt_of_lt_of_le h.1 (Nat.pow_le_pow_right (by omega) hk), Nat.lt_of_lt_of_le h.2 (Nat.pow_le_pow_right (by omega) hk)⟩
theorem Fz.mul {a b : Rat} {j k : Nat} (h : Fz a j) (h' : Fz b k) : Fz (a * b) (j + k) := by
  have e : a * b = mkRat (a.num * b.num) (a.den * b.den) := by
    rw [← Rat.mkRat_mul_mkRat, Rat.mkRat_self, Rat.mkRat_self]
  rw [e]
  refine .mk ?_ ?_ (by have := h.pos; omega)
  · rw [Int.natAbs_mul, Nat.pow_add]; exact Nat.mul_lt_mul'' h.1 h'.1
  · rw [Nat.pow_add]; exact Nat.mul_lt_mul'' h.2 h'.2
theorem Fz.add {a b : Rat} {j k : Nat} (h : Fz a j) (h' : Fz b k) : Fz (a + b) (j + k + 1) := by
  have e : a + b = mkRat (a.num * b.den + b.num * a.den) (a.den * b.den) := by
    rw [← Rat.mkRat_add_mkRat _ _ a.den_nz b.den_nz, Rat.mkRat_self, Rat.mkRat_self]
  rw [e]
  have m1 : a.num.natAbs * b.den < 256 ^ (j + k) := by rw [Nat.pow_add]; exact Nat.mul_lt_mul'' h.1 h'.2
  have m2 : b.num.natAbs * a.den < 256 ^ (j + k) := by rw [Nat.pow_add, Nat.mul_comm]; exact Nat.mul_lt_mul'' h.2 h'.1
  have m3 : a.den * b.den < 256 ^ (j + k) := by rw [Nat.pow_add]; exact Nat.mul_lt_mul'' h.2 h'.2
  refine .mk ?_ ?_ (by omega)
  · refine Nat.lt_of_le_of_lt (Int.natAbs_add_le _ _) ?_
    rw [Int.natAbs_mul, Int.natAbs_mul, Int.natAbs_natCast, Int.natAbs_natCast, Nat.pow_succ]; omega
  · rw [Nat.pow_succ]; omega
theorem Fz.neg {a : Rat} {k : Nat} (h : Fz a k) : Fz (-a) k := by
  have : -a = mkRat (-a.num) a.den := by rw [← Rat.neg_mkRat, Rat.mkRat_self]
  rw [this]; exact .mk (by rw [Int.natAbs_neg]; exact h.1) h.2 h.pos
theorem Fz.sub {a b : Rat} {j k : Nat} (h : Fz a j) (h' : Fz b k) : Fz (a - b) (j + k + 1) := by
  rw [Rat.sub_eq_add_neg]; exact h.add h'.neg
theorem Fz.int {n : Int} (h : n.natAbs < 256 ^ 8) : Fz (n : Rat) 8 := by
  unfold Fz; rw [Rat.num_intCast, Rat.den_intCast]; exact ⟨h, by decide⟩
def sgi (neg : Bool) (n : Nat) : Int := if neg then -(n : Int) else n
theorem sgi_abs (neg : Bool) (n : Nat) : (sgi neg n).natAbs = n := by cases neg <;> simp [sgi]
theorem sgi_num (i : Int) : sgi (decide (i < 0)) i.natAbs = i := by
  unfold sgi; by_cases h : i < 0 <;> simp [h] <;> omega
def rv (neg : Bool) (n d : ByteArray) : Rat := mkRat (sgi neg (vn n)) (vn d)
def agf (neg : Bool) (n d : ByteArray) : Value := .agg #[.bool neg, .string n, .string d]
def frv (q : Rat) : Value := agf (decide (q.num < 0)) (ns q.num.natAbs) (ns q.den)
def Fr (v : Value) (q : Rat) (k : Nat) : Prop := ∃ neg n d, v = agf neg n d ∧ q = rv neg n d ∧ n.size ≤ k ∧ d.size ≤ k

theorem ns_one : ns 1 = ⟨#[1]⟩ := by unfold ns; rw [nb_pos 1 (by omega), nb_zero]; rfl
theorem rv_frv (q : Rat) : rv (decide (q.num < 0)) (ns q.num.natAbs) (ns q.den) = q := by
  unfold rv; rw [vn_ns, vn_ns, sgi_num, Rat.mkRat_self]
theorem Fz.fr {q : Rat} {k : Nat} (h : Fz q k) : Fr (frv q) q k :=
  ⟨_, _, _, rfl, (rv_frv q).symm, by rw [ns_size]; exact nb_length_lt h.1, by rw [ns_size]; exact nb_length_lt h.2⟩
theorem Fr.fz {v : Value} {q : Rat} {k : Nat} (h : Fr v q k) (hk : 1 ≤ k) : Fz q k := by
  obtain ⟨neg, n, d, rfl, rfl, hn, hd⟩ := h
  exact .mk (by rw [sgi_abs]; exact Nat.lt_of_lt_of_le (vn_lt n) (Nat.pow_le_pow_right (by omega) hn)) (Nat.lt_of_lt_of_le (vn_lt d) (Nat.pow_le_pow_right (by omega) hd)) hk
theorem rv_zero {neg : Bool} {n d : ByteArray} (h : vn n = 0 ∨ vn d = 0) : rv neg n d = 0 := by
  unfold rv
  rcases h with h | h
  · rw [h]; cases neg <;> simp [sgi]
  · rw [h]; simp
theorem frv_zero : frv 0 = agf false ⟨#[]⟩ ⟨#[1]⟩ := by
  unfold frv
  rw [show (0 : Rat).num = 0 from rfl, show (0 : Rat).den = 1 from rfl]
  rw [show (0 : Int).natAbs = 0 from rfl, ns_zero, ns_one]
  rfl
theorem frv_nat (n : Nat) : frv ((n : Int) : Rat) = agf false (ns n) ⟨#[1]⟩ := by
  unfold frv
  rw [Rat.num_intCast, Rat.den_intCast, ns_one, decide_eq_false (by omega), Int.natAbs_natCast]
theorem rv_make {neg : Bool} {n d : ByteArray} (hn : vn n ≠ 0) (hd : vn d ≠ 0) :
    (decide ((rv neg n d).num < 0)) = neg ∧ (rv neg n d).num.natAbs = vn n / Nat.gcd (vn n) (vn d) ∧ (rv neg n d).den = vn d / Nat.gcd (vn n) (vn d) := by
  have hg : 0 < Nat.gcd (vn n) (vn d) := Nat.gcd_pos_of_pos_left _ (by omega)
  have hq : 0 < vn n / Nat.gcd (vn n) (vn d) := Nat.div_pos (Nat.le_of_dvd (by omega) (Nat.gcd_dvd_left _ _)) hg
  have key : ∀ i : Int, i.natAbs = vn n → (mkRat i (vn d)).num = i / (Nat.gcd (vn n) (vn d) : Nat) ∧ (mkRat i (vn d)).den = vn d / Nat.gcd (vn n) (vn d) := by
    intro i hi
    have e : mkRat i (vn d) = Rat.normalize i (vn d) hd := by simp [mkRat, hd]
    rw [e, Rat.normalize_eq]
    simp only [hi]
    exact ⟨trivial, trivial⟩
  cases neg
  · obtain ⟨k1, k2⟩ := key (vn n) (by simp)
    have e : (rv false n d).num = ((vn n / Nat.gcd (vn n) (vn d) : Nat) : Int) := by
      show (mkRat (vn n) (vn d)).num = _
      rw [k1, Int.natCast_ediv]
    refine ⟨?_, ?_, k2⟩
    · rw [decide_eq_false]; rw [e]; omega
    · rw [e, Int.natAbs_natCast]
  · obtain ⟨k1, k2⟩ := key (-(vn n : Int)) (by simp)
    have e : (rv true n d).num = -((vn n / Nat.gcd (vn n) (vn d) : Nat) : Int) := by
      show (mkRat (-(vn n : Int)) (vn d)).num = _
      rw [k1, Int.neg_ediv_of_dvd (Int.natCast_dvd_natCast.2 (Nat.gcd_dvd_left _ _)), Int.natCast_ediv]
    refine ⟨?_, ?_, k2⟩
    · rw [decide_eq_true]; rw [e]; omega
    · rw [e, Int.natAbs_neg, Int.natAbs_natCast]
theorem frv_make {neg : Bool} {n d : ByteArray} (hn : vn n ≠ 0) (hd : vn d ≠ 0) :
    frv (rv neg n d) = agf neg (ns (vn n / Nat.gcd (vn n) (vn d))) (ns (vn d / Nat.gcd (vn n) (vn d))) := by
  obtain ⟨h1, h2, h3⟩ := rv_make (neg := neg) hn hd
  unfold frv
  rw [h1, h2, h3]
end

section
open Go Go.RowKit
open Go.IntWalk (wrap64_in)

def Fc (w : World) (b : Nat) (g : Bool) (n d : ByteArray) : Prop := Blk w b 55 [.bool g, .string n, .string d]
theorem Fc.c {w : World} {b : Nat} {g : Bool} {n d : ByteArray} (h : Fc w b g n d) :
    w.cell? ⟨b, 0, none⟩ = some (.bool g) ∧ w.cell? ⟨b, 1, none⟩ = some (.string n) ∧ w.cell? ⟨b, 2, none⟩ = some (.string d) ∧ w.frozen? ⟨b, 0, none⟩ = false ∧ w.frozen? ⟨b, 1, none⟩ = false ∧ w.frozen? ⟨b, 2, none⟩ = false :=
  ⟨Blk.cell h 0 (by simp), Blk.cell h 1 (by simp), Blk.cell h 2 (by simp), Blk.frozen h 0, Blk.frozen h 1, Blk.frozen h 2⟩
theorem Fc.new (w : World) (g : Bool) (n d : ByteArray) : Fc (w.alloc (.cells #[.bool g, .string n, .string d] 55)) w.heap.size g n d := Blk.newA w _ _
theorem Fc.new' {w : World} {b : Nat} (g : Bool) (n d : ByteArray) (h : b = w.heap.size) : Fc (w.alloc (.cells #[.bool g, .string n, .string d] 55)) b g n d := h ▸ Fc.new w g n d
theorem Fc.ext {w w' : World} {b : Nat} {g : Bool} {n d : ByteArray} (h : Fc w b g n d) (hb : Below w.heap.size w w') : Fc w' b g n d := Blk.ext h hb
theorem Fc.put {w : World} {b : Nat} {g : Bool} {n d : ByteArray} (h : Fc w b g n d) (g' : Bool) (n' d' : ByteArray) :
    Fc (((w.setCell ⟨b, 0, none⟩ (.bool g')).setCell ⟨b, 1, none⟩ (.string n')).setCell ⟨b, 2, none⟩ (.string d')) b g' n' d' := ((Blk.set h 0 _).set 1 _).set 2 _
theorem Fc.alloc {w : World} {b : Nat} {g : Bool} {n d : ByteArray} (h : Fc w b g n d) (o : Obj) : Fc (w.alloc o) b g n d := Blk.alloc h o
theorem Fc.setOther {w : World} {b : Nat} {g : Bool} {n d : ByteArray} (h : Fc w b g n d) {a : Addr} (ha : a.block ≠ b) (u : Value) : Fc (w.setCell a u) b g n d := Blk.setOther h ha u
def RetFr (w : World) (q : Rat) (e : Ending) (w' : World) : Prop := e = .returned (frv q) ∧ Below w.heap.size w w'

theorem toList_not_one {n : Nat} (h : ¬ n = 1) : ¬ (ns n).toList = [1] := by
  rw [toList_bytes, ns_toList, show ([1] : List UInt8) = nb 1 by rw [nb_pos 1 (by omega), nb_zero]; rfl]
  exact fun e => h (nb_inj e)
theorem bl_put {B : Nat} {w0 w : World} (h : Below B w0 w) {b : Nat} (hb : B ≤ b) (g u v : Value) :
    Below B w0 (((w.setCell ⟨b, 0, none⟩ g).setCell ⟨b, 1, none⟩ u).setCell ⟨b, 2, none⟩ v) := ((h.setCell hb _).setCell hb _).setCell hb _
theorem bl_new {B : Nat} {w0 w w' : World} {o : Obj} (h : Below B w0 w) (hB : B ≤ w.heap.size) (hb : Below (w.alloc o).heap.size (w.alloc o) w') : Below B w0 w' :=
  (h.alloc hB o).trans (hb.mono (Nat.le_trans hB (by simp)))
theorem results_fc {fn : Func} {p : Tmp} {tmps : Array Value} {w : World} {b : Nat} {g : Bool} {n d : ByteArray} (h : fn.results = #[.cell p 55])
    (ht : tmps.getD p undef = .pointer (some ⟨b, 0, none⟩)) (hf : Fc w b g n d) : (results fn tmps).run Tryd.prog w = .ok (agf g n d) w := by
  obtain ⟨c0, c1, c2, f0, f1, f2⟩ := hf.c
  have ht' : tmps[p]?.getD undef = .pointer (some ⟨b, 0, none⟩) := by simpa using ht
  simp [results, h, ht', go_sem, agf, c0, c1, c2]

set_option maxRecDepth 100000 in
set_option maxHeartbeats 1000000 in
theorem fof_pos (n : Nat) (w : World) (hn : n ≤ 9223372036854775807) :
    Calls Tryd.prog 102 #[.int .i64 n] w (RetFr w (n : Int)) := by
  have HE := Lib.hid (frv_nat n)
  have HO := Lib.hid (fun w => of_any (n : Int) w (by omega) (by omega))
  go_enter Tryd.func102, Tryd.ntmps102
  go_wp2_with fail
  refine (HO.out _).mono ?_; rintro e w1 ⟨rfl, hb1⟩
  rw [show ((n : Int)).toNat = n by simp]
  obtain ⟨c0, c1, c2, f0, f1, f2⟩ := ((Fc.new w false ⟨#[]⟩ ⟨#[]⟩).ext hb1).c
  go_wp2_with fail
  refine bodyPost_ret (results_fc rfl rfl (((Fc.new w false ⟨#[]⟩ ⟨#[]⟩).ext hb1).put _ _ _)) rfl ?_
  exact ⟨by rw [HE.out], bl_put (bl_new (Below.refl _ _) (Nat.le_refl _) hb1) (Nat.le_refl _) _ _ _⟩
theorem fof_zero (w : World) : Calls Tryd.prog 102 #[.int .i64 0] w fun e w' => e = .returned (.agg #[.bool false, .string ⟨#[]⟩, .string ⟨#[1]⟩]) ∧ Below w.heap.size w w' := by
  have h := fof_pos 0 w (by omega)
  refine h.mono ?_; rintro e w' ⟨rfl, hb⟩
  exact ⟨by rw [frv_nat, ns_zero]; rfl, hb⟩

set_option maxRecDepth 100000 in
set_option maxHeartbeats 1000000 in
theorem fmake_any (g : Bool) (n d : ByteArray) (w : World) (hn : n.size ≤ 137438953472) (hd : d.size ≤ 137438953472) :
    Calls Tryd.prog 154 #[.bool g, .string n, .string d] w (RetFr w (rv g n d)) := by
  have T1 := Lib.hid (fun w => trim_any n w (by unfold maxLen; omega))
  have T2 := Lib.hid (fun w => trim_any d w (by unfold maxLen; omega))
  have hF := fun w => Fc.new w false ⟨#[]⟩ ⟨#[]⟩
  have hZ := fun w => fof_zero w
  have HF := Lib.hid hF
  have HZ := Lib.hid hZ
  clear hF hZ
  by_cases hnz : vn n = 0
  · have hz := Lib.hid (show frv (rv g n d) = _ by rw [rv_zero (.inl hnz), frv_zero])
    have n1 := toList_nil (ns 0) (by rw [ns_zero]; rfl)
    rw [hnz] at T1
    generalize vn d = y at *
    go_enter Tryd.func154, Tryd.ntmps154
    go_wp2_with fail
    refine (T1.out _).mono ?_; rintro e w' ⟨rfl, rfl⟩
    go_wp2_with fail
    refine (T2.out _).mono ?_; rintro e w' ⟨rfl, rfl⟩
    go_wp2_with fail
    refine (HZ.out _).mono ?_; rintro e w1 ⟨rfl, hb1⟩
    have hF := (HF.out w).ext hb1
    obtain ⟨c0, c1, c2, f0, f1, f2⟩ := hF.c
    go_wp2_with fail
    refine bodyPost_ret (results_fc rfl rfl (hF.put _ _ _)) rfl ?_
    exact ⟨by rw [hz.out], bl_put (bl_new (Below.refl _ _) (Nat.le_refl _) hb1) (Nat.le_refl _) _ _ _⟩
  have n1 := toList_ne (ns (vn n)) (ns_pos_size hnz)
  have n2 := isEmpty_false (ns (vn n)) (ns_pos_size hnz)
  by_cases hdz : vn d = 0
  · have hz := Lib.hid (show frv (rv g n d) = _ by rw [rv_zero (.inr hdz), frv_zero])
    have n3 := toList_nil (ns 0) (by rw [ns_zero]; rfl)
    rw [hdz] at T2
    clear hnz
    generalize vn n = x at *
    go_enter Tryd.func154, Tryd.ntmps154
    go_wp2_with fail
    refine (T1.out _).mono ?_; rintro e w' ⟨rfl, rfl⟩
    go_wp2_with fail
    refine (T2.out _).mono ?_; rintro e w' ⟨rfl, rfl⟩
    go_wp2_with fail
    refine (HZ.out _).mono ?_; rintro e w1 ⟨rfl, hb1⟩
    have hF := (HF.out w).ext hb1
    obtain ⟨c0, c1, c2, f0, f1, f2⟩ := hF.c
    go_wp2_with fail
    refine bodyPost_ret (results_fc rfl rfl (hF.put _ _ _)) rfl ?_
    exact ⟨by rw [hz.out], bl_put (bl_new (Below.refl _ _) (Nat.le_refl _) hb1) (Nat.le_refl _) _ _ _⟩
  have n3 := toList_ne (ns (vn d)) (ns_pos_size hdz)
  have n4 := isEmpty_false (ns (vn d)) (ns_pos_size hdz)
  have he := Lib.hid (frv_make (neg := g) hnz hdz)
  have s1 := ns_size_le n
  have s2 := ns_size_le d
  have hg0 : Nat.gcd (vn n) (vn d) ≠ 0 := fun e => hnz (Nat.gcd_eq_zero_iff.1 e).1
  have gle : (ns (Nat.gcd (vn n) (vn d))).size ≤ (ns (vn n)).size := by rw [ns_size, ns_size]; exact nb_mono (Nat.le_of_dvd (by omega) (Nat.gcd_dvd_left _ _))
  have G1 := Lib.hid (fun w => gcd_any (ns (vn n)) (ns (vn d)) w (by omega) (by omega))
  have D1 := Lib.hid (fun w => div_any (ns (vn n)) (ns (Nat.gcd (vn n) (vn d))) w (by omega) (by omega) (by rw [vn_ns]; exact hg0))
  have D2 := Lib.hid (fun w => div_any (ns (vn d)) (ns (Nat.gcd (vn n) (vn d))) w (by omega) (by omega) (by rw [vn_ns]; exact hg0))
  simp only [vn_ns] at G1 D1 D2
  clear s1 s2 gle hn hd hnz hdz
  generalize vn n = x at *
  generalize vn d = y at *
  by_cases h1 : Nat.gcd x y = 1
  · rw [h1] at he G1
    have hx : x / 1 = x := Nat.div_one _
    have hy : y / 1 = y := Nat.div_one _
    rw [hx, hy] at he
    clear D1 D2 hg0 h1 hx hy
    have k1 : ns 1 = ⟨#[1]⟩ := ns_one
    go_enter Tryd.func154, Tryd.ntmps154
    go_wp2_with fail
    refine (T1.out _).mono ?_; rintro e w' ⟨rfl, rfl⟩
    go_wp2_with fail
    refine (T2.out _).mono ?_; rintro e w' ⟨rfl, rfl⟩
    go_wp2_with fail
    refine (G1.out _).mono ?_; rintro e w1 ⟨rfl, hb1⟩
    rw [k1]
    have hF := (HF.out w).ext hb1
    obtain ⟨c0, c1, c2, f0, f1, f2⟩ := hF.c
    go_wp2_with fail
    refine bodyPost_ret (results_fc rfl rfl (hF.put _ _ _)) rfl ?_
    exact ⟨by rw [he.out], bl_put (bl_new (Below.refl _ _) (Nat.le_refl _) hb1) (Nat.le_refl _) _ _ _⟩
  · have k1 := toList_not_one h1
    have k2 : ((ns (Nat.gcd x y)).toList == [1]) = false := by simpa using k1
    generalize Nat.gcd x y = z at *
    clear hg0 h1
    go_enter Tryd.func154, Tryd.ntmps154
    go_wp2_with fail
    refine (T1.out _).mono ?_; rintro e w' ⟨rfl, rfl⟩
    go_wp2_with fail
    refine (T2.out _).mono ?_; rintro e w' ⟨rfl, rfl⟩
    go_wp2_with fail
    refine (G1.out _).mono ?_; rintro e w1 ⟨rfl, hb1⟩
    go_wp2_with fail
    refine (D1.out _).mono ?_; rintro e w2 ⟨rfl, hb2⟩
    go_wp2_with fail
    refine (D2.out _).mono ?_; rintro e w3 ⟨rfl, hb3⟩
    have hF := (((HF.out w).ext hb1).ext hb2).ext hb3
    obtain ⟨c0, c1, c2, f0, f1, f2⟩ := hF.c
    go_wp2_with fail
    refine bodyPost_ret (results_fc rfl rfl (hF.put _ _ _)) rfl ?_
    have s1 := hb1.size
    have s2 := hb2.size
    simp at s1
    exact ⟨by rw [he.out], bl_put (((bl_new (Below.refl _ _) (Nat.le_refl _) hb1).trans (hb2.mono (by omega))).trans (hb3.mono (by omega))) (Nat.le_refl _) _ _ _⟩
end

section
open Go Go.RowKit
open Go.IntWalk (wrap64_in)

def Gives (f : FuncId) (args : Array Value) (v : Value) : Prop := ∀ w, Calls Tryd.prog f args w fun e w' => e = .returned v ∧ Below w.heap.size w w'
theorem frv_open (q : Rat) : ∃ g n d, frv q = .agg #[.bool g, .string n, .string d] ∧ n = ns q.num.natAbs ∧ d = ns q.den ∧ g = decide (q.num < 0) := ⟨_, _, _, rfl, rfl, rfl, rfl⟩

set_option maxRecDepth 100000 in
set_option maxHeartbeats 1000000 in
theorem fcanon_any (g : Bool) (n d : ByteArray) (w : World) (hn : n.size ≤ 137438953472) (hd : d.size ≤ 137438953472) :
    Calls Tryd.prog 159 #[agf g n d] w (RetFr w (rv g n d)) := by
  have G1 := fun w => fmake_any g n d w hn hd
  unfold RetFr at *
  obtain ⟨g', n', d', e, _⟩ := frv_open (rv g n d)
  have HE := Lib.hid e
  simp only [e] at G1 ⊢
  unfold agf
  have HG := Lib.hid G1
  clear G1 e
  have hF := Lib.hid (fun w => Fc.new w g n d)
  go_enter Tryd.func159, Tryd.ntmps159
  go_wp2_with fail
  refine (HG.out _).mono ?_; rintro e w1 ⟨rfl, hb1⟩
  have hR := (Fc.new' (w := w.alloc (.cells #[.bool g, .string n, .string d] 55)) (b := w.heap.size + 1) false ⟨#[]⟩ ⟨#[]⟩ (by simp)).ext hb1
  obtain ⟨c0, c1, c2, f0, f1, f2⟩ := hR.c
  go_wp2_with fail
  refine bodyPost_ret (results_fc rfl rfl (hR.put _ _ _)) rfl ?_
  exact ⟨by first | rfl | exact congrArg _ HE.out | exact (congrArg _ HE.out).symm, bl_put (bl_new ((Below.refl _ w).alloc (Nat.le_refl _) _) (by simp) hb1) (by simp) _ _ _⟩

def Two (w wx : World) (g : Bool) (n d : ByteArray) (g2 : Bool) (n2 d2 : ByteArray) : Prop :=
  Below w.heap.size w wx ∧ Fc wx w.heap.size g n d ∧ Fc wx (w.heap.size + 1) g2 n2 d2 ∧ Fc wx (w.heap.size + 1 + 1) false ⟨#[]⟩ ⟨#[]⟩
theorem Two.ext {w wx w' : World} {g : Bool} {n d : ByteArray} {g2 : Bool} {n2 d2 : ByteArray} (h : Two w wx g n d g2 n2 d2) (hb : Below wx.heap.size wx w') : Two w w' g n d g2 n2 d2 :=
  ⟨h.1.trans (hb.mono h.1.size), h.2.1.ext hb, h.2.2.1.ext hb, h.2.2.2.ext hb⟩
theorem Two.drew {w wx : World} {g : Bool} {n d : ByteArray} {g2 : Bool} {n2 d2 : ByteArray} (h : Two w wx g n d g2 n2 d2) : Two w wx.drew g n d g2 n2 d2 := ⟨h.1.drew, h.2⟩
theorem Two.new (w : World) (g : Bool) (n d : ByteArray) (g2 : Bool) (n2 d2 : ByteArray) :
    Two w (((w.alloc (.cells #[.bool g, .string n, .string d] 55)).alloc (.cells #[.bool g2, .string n2, .string d2] 55)).alloc (.cells #[.bool false, .string ⟨#[]⟩, .string ⟨#[]⟩] 55)) g n d g2 n2 d2 :=
  ⟨(((Below.refl _ w).alloc (Nat.le_refl _) _).alloc (by simp) _).alloc (by simp <;> omega) _, ((Fc.new w g n d).alloc _).alloc _, (Fc.new' g2 n2 d2 (by simp)).alloc _, Fc.new' _ _ _ (by simp)⟩
def TwoE (w wx : World) (g : Bool) (n d : ByteArray) (g2 : Bool) (n2 d2 : ByteArray) : Prop :=
  Below w.heap.size w wx ∧ Fc wx w.heap.size g n d ∧ Fc wx (w.heap.size + 1) g2 n2 d2 ∧ ∃ g3 n3 d3, Fc wx (w.heap.size + 1 + 1) g3 n3 d3
section
variable {w wx w' : World} {g : Bool} {n d : ByteArray} {g2 : Bool} {n2 d2 : ByteArray}
theorem Two.e (h : Two w wx g n d g2 n2 d2) : TwoE w wx g n d g2 n2 d2 := ⟨h.1, h.2.1, h.2.2.1, _, _, _, h.2.2.2⟩
theorem TwoE.ext (h : TwoE w wx g n d g2 n2 d2) (hb : Below wx.heap.size wx w') : TwoE w w' g n d g2 n2 d2 := by
  obtain ⟨h1, h2, h3, g3, n3, d3, h4⟩ := h
  exact ⟨h1.trans (hb.mono h1.size), h2.ext hb, h3.ext hb, g3, n3, d3, h4.ext hb⟩
theorem TwoE.drew (h : TwoE w wx g n d g2 n2 d2) : TwoE w wx.drew g n d g2 n2 d2 := ⟨h.1.drew, h.2⟩
theorem TwoE.s (h : TwoE w wx g n d g2 n2 d2) : TwoE w wx g n d g2 n2 d2 ∧ wx.cell? ⟨w.heap.size, 0, none⟩ = some (.bool g) ∧ wx.cell? ⟨w.heap.size, 1, none⟩ = some (.string n) ∧ wx.cell? ⟨w.heap.size, 2, none⟩ = some (.string d) ∧
    wx.cell? ⟨w.heap.size + 1, 0, none⟩ = some (.bool g2) ∧ wx.cell? ⟨w.heap.size + 1, 1, none⟩ = some (.string n2) ∧ wx.cell? ⟨w.heap.size + 1, 2, none⟩ = some (.string d2) := by
  obtain ⟨a0, a1, a2, b0, b1, b2⟩ := h.2.1.c
  obtain ⟨c0, c1, c2, x0, x1, x2⟩ := h.2.2.1.c
  exact ⟨h, a0, a1, a2, c0, c1, c2⟩
end

end

section
open Go Go.RowKit
open Go.IntWalk (wrap64_in)

end

section
open Go Go.RowKit
open Go.IntWalk (wrap64_in)

end

section
open Go Go.RowKit

def cg (q : Rat) : Bool := decide (q.num < 0)
def cn (q : Rat) : ByteArray := ns q.num.natAbs
def cd (q : Rat) : ByteArray := ns q.den
abbrev fv (q : Rat) : Value := .agg #[.bool (cg q), .string (cn q), .string (cd q)]
theorem rv_c (q : Rat) : rv (cg q) (cn q) (cd q) = q := rv_frv q
theorem cg_zero : cg 0 = false := rfl
theorem cn_zero : cn 0 = ⟨#[]⟩ := by show ns 0 = _; exact ns_zero
theorem cd_zero : cd 0 = ⟨#[1]⟩ := by show ns 1 = _; exact ns_one
def Is (g : Bool) (n d : ByteArray) (q : Rat) (k : Nat) : Prop := rv g n d = q ∧ n.size ≤ k ∧ d.size ≤ k
theorem Is.c {q : Rat} {k : Nat} (h : Fz q k) : Is (cg q) (cn q) (cd q) q k :=
  ⟨rv_c q, by unfold cn; rw [ns_size]; exact nb_length_lt h.1, by unfold cd; rw [ns_size]; exact nb_length_lt h.2⟩
theorem Is.fz {g : Bool} {n d : ByteArray} {q : Rat} {k : Nat} (h : Is g n d q k) (hk : 1 ≤ k) : Fz q k :=
  Fr.fz ⟨g, n, d, rfl, h.1.symm, h.2.1, h.2.2⟩ hk
theorem Is.up {g : Bool} {n d : ByteArray} {q : Rat} {j k : Nat} (h : Is g n d q j) (hk : j ≤ k) : Is g n d q k := ⟨h.1, by have := h.2.1; omega, by have := h.2.2; omega⟩
theorem Is.zero : Is false ⟨#[]⟩ ⟨#[1]⟩ 0 1 := ⟨rv_zero (.inl vn_nil), by decide, by decide⟩

theorem Gives.at {f : FuncId} {args : Array Value} {v : Value} (h : Gives f args v) (w : World) : Calls Tryd.prog f args w fun e w' => e = .returned v ∧ Below w.heap.size w w' := h w
theorem Gives.acc {w : World} {f : FuncId} {args : Array Value} {v : Value} (h : Gives f args v) : Acc w f args v := .of h

section
variable {g g2 : Bool} {n d n2 d2 : ByteArray} {x y r : Rat} {k : Nat}
theorem fcanon_g (h : Is g n d x k) (hk : k ≤ 34359738368) : Gives 159 #[.agg #[.bool g, .string n, .string d]] (fv x) :=
  fun w' => by rw [← h.1]; exact fcanon_any g n d w' (by have := h.2.1; omega) (by have := h.2.2; omega)
end
end
end Go.Proofs.YtabmgfchkcmcmaaDoor
