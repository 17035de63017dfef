/- Fractions as rationals, in plain Lean: signs and sizes, order, and what a program's fraction stands for. Conditions: none. -/
import Derived.Test.YtlloghbaggdhnaaDoorAcc
set_option linter.unusedVariables false
set_option linter.unusedSimpArgs false
namespace Go.Proofs.YtlloghbaggdhnaaDoor
open Go Go.RowKit

theorem mk_add_same (i j : Int) (d : Nat) : mkRat i d + mkRat j d = mkRat (i + j) d := by
  by_cases h : d = 0
  · subst h; simp; exact Rat.add_zero 0
  · rw [Rat.mkRat_add_mkRat _ _ h h, ← Int.add_mul, Rat.mkRat_mul_right h]
theorem mk_num_le (i : Int) (d : Nat) : (mkRat i d).num.natAbs ≤ i.natAbs := by
  rw [Rat.num_mkRat]
  split
  · simp
  · rw [Int.natAbs_ediv_of_dvd (Int.ofNat_dvd_left.2 (Nat.gcd_dvd_right _ _)), Int.natAbs_natCast]
    exact Nat.div_le_self _ _
theorem mk_den_le (i : Int) (d : Nat) (h : d ≠ 0) : (mkRat i d).den ≤ d := by
  rw [Rat.den_mkRat, if_neg h]
  exact Nat.div_le_self _ _
def Fz (q : Rat) (k : Nat) : Prop := q.num.natAbs < 256 ^ k ∧ q.den < 256 ^ k
theorem pow_one_lt {k : Nat} (h : 1 ≤ k) : 1 < 256 ^ k := Nat.lt_of_lt_of_le (by decide) (Nat.pow_le_pow_right (by omega) h)
theorem Fz.mk {i : Int} {d k : Nat} (hi : i.natAbs < 256 ^ k) (hd : d < 256 ^ k) (hk : 1 ≤ k) : Fz (mkRat i d) k := by
  refine ⟨Nat.lt_of_le_of_lt (mk_num_le i d) hi, ?_⟩
  by_cases h : d = 0
  · subst h; rw [Rat.den_mkRat]; simpa using pow_one_lt hk
  · exact Nat.lt_of_le_of_lt (mk_den_le i d h) hd
theorem Fz.pos {q : Rat} {k : Nat} (h : Fz q k) : 1 ≤ k := by
  rcases k with _ | k
  · have := h.2; have := q.den_pos; simp at *; omega
  · omega
theorem Fz.up {q : Rat} {j k : Nat} (h : Fz q j) (hk : j ≤ k) : Fz q k :=
  ⟨Nat.lt_of_lt_of_le h.1 (Nat.pow_le_pow_right (by omega) hk), Nat.lt_of_lt_of_le h.2 (Nat.pow_le_pow_right (by omega) hk)⟩
theorem Fz.mul {a b : Rat} {j k : Nat} (h : Fz a j) (h' : Fz b k) : Fz (a * b) (j + k) := by
  have e : a * b = mkRat (a.num * b.num) (a.den * b.den) := by
    rw [← Rat.mkRat_mul_mkRat, Rat.mkRat_self, Rat.mkRat_self]
  rw [e]
  refine .mk ?_ ?_ (by have := h.pos; omega)
  · rw [Int.natAbs_mul, Nat.pow_add]; exact Nat.mul_lt_mul'' h.1 h'.1
  · rw [Nat.pow_add]; exact Nat.mul_lt_mul'' h.2 h'.2
theorem Fz.add {a b : Rat} {j k : Nat} (h : Fz a j) (h' : Fz b k) : Fz (a + b) (j + k + 1) := by
  have e : a + b = mkRat (a.num * b.den + b.num * a.den) (a.den * b.den) := by
    rw [← Rat.mkRat_add_mkRat _ _ a.den_nz b.den_nz, Rat.mkRat_self, Rat.mkRat_self]
  rw [e]
  have m1 : a.num.natAbs * b.den < 256 ^ (j + k) := by rw [Nat.pow_add]; exact Nat.mul_lt_mul'' h.1 h'.2
  have m2 : b.num.natAbs * a.den < 256 ^ (j + k) := by rw [Nat.pow_add, Nat.mul_comm]; exact Nat.mul_lt_mul'' h.2 h'.1
  have m3 : a.den * b.den < 256 ^ (j + k) := by rw [Nat.pow_add]; exact Nat.mul_lt_mul'' h.2 h'.2
  refine .mk ?_ ?_ (by omega)
  · refine Nat.lt_of_le_of_lt (Int.natAbs_add_le _ _) ?_
    rw [Int.natAbs_mul, Int.natAbs_mul, Int.natAbs_natCast, Int.natAbs_natCast, Nat.pow_succ]; omega
  · rw [Nat.pow_succ]; omega
theorem Fz.neg {a : Rat} {k : Nat} (h : Fz a k) : Fz (-a) k := by
  have : -a = mkRat (-a.num) a.den := by rw [← Rat.neg_mkRat, Rat.mkRat_self]
  rw [this]; exact .mk (by rw [Int.natAbs_neg]; exact h.1) h.2 h.pos
theorem Fz.sub {a b : Rat} {j k : Nat} (h : Fz a j) (h' : Fz b k) : Fz (a - b) (j + k + 1) := by
  rw [Rat.sub_eq_add_neg]; exact h.add h'.neg
theorem Fz.int {n : Int} (h : n.natAbs < 256 ^ 8) : Fz (n : Rat) 8 := by
  unfold Fz; rw [Rat.num_intCast, Rat.den_intCast]; exact ⟨h, by decide⟩
/-- the sign and the size of a number -/
def sgi (neg : Bool) (n : Nat) : Int := if neg then -(n : Int) else n
theorem sgi_abs (neg : Bool) (n : Nat) : (sgi neg n).natAbs = n := by cases neg <;> simp [sgi]
theorem sgi_num (i : Int) : sgi (decide (i < 0)) i.natAbs = i := by
  unfold sgi; by_cases h : i < 0 <;> simp [h] <;> omega
theorem sgi_mul (a b : Bool) (m n : Nat) : sgi a m * sgi b n = sgi (a != b) (m * n) := by
  cases a <;> cases b <;> simp [sgi, Int.neg_mul, Int.mul_neg]
theorem sgi_mul_nat (a : Bool) (m n : Nat) : sgi a m * (n : Int) = sgi a (m * n) := by
  cases a <;> simp [sgi, Int.neg_mul]
theorem sgi_add_same (a : Bool) (m n : Nat) : sgi a m + sgi a n = sgi a (m + n) := by
  cases a <;> simp [sgi] ; omega
theorem sgi_add_ge (a b : Bool) (hab : a ≠ b) (m n : Nat) (h : n ≤ m) : sgi a m + sgi b n = sgi a (m - n) := by
  cases a <;> cases b <;> simp [sgi] at * <;> omega
theorem sgi_add_lt (a b : Bool) (hab : a ≠ b) (m n : Nat) (h : m < n) : sgi a m + sgi b n = sgi b (n - m) := by
  cases a <;> cases b <;> simp [sgi] at * <;> omega
theorem sgi_neg (a : Bool) (m : Nat) : sgi (!a) m = - sgi a m := by cases a <;> simp [sgi]
theorem inv_mk (q : Rat) (h : q ≠ 0) : q⁻¹ = mkRat (sgi (decide (q.num < 0)) q.den) q.num.natAbs := by
  have h0 : q.num ≠ 0 := fun e => h (Rat.num_eq_zero.1 e)
  rw [Rat.inv_def]
  by_cases hn : q.num < 0
  · have e : q.num = - (q.num.natAbs : Int) := by omega
    simp only [sgi, hn, decide_true, if_true]
    rw [← Rat.divInt_ofNat, ← Rat.neg_divInt_neg]
    congr 1; omega
  · have e : q.num = (q.num.natAbs : Int) := by omega
    simp only [sgi, hn, decide_false]
    rw [← Rat.divInt_ofNat, ← e]; rfl
theorem Fz.inv {a : Rat} {k : Nat} (h : Fz a k) : Fz a⁻¹ k := by
  by_cases h0 : a = 0
  · subst h0; exact ⟨by rw [Rat.inv_zero]; exact h.1, by rw [Rat.inv_zero]; exact h.2⟩
  · rw [inv_mk a h0]; exact .mk (by rw [sgi_abs]; exact h.2) h.1 h.pos
theorem Fz.div {a b : Rat} {j k : Nat} (h : Fz a j) (h' : Fz b k) : Fz (a / b) (j + k) := by
  rw [Rat.div_def]; exact h.mul h'.inv
def cmpR (a b : Rat) : Int := if a = b then 0 else if a < b then -1 else 1
theorem cmpR_sub (a b : Rat) : cmpR a b = if (a - b).num = 0 then 0 else if (a - b).num < 0 then -1 else 1 := by
  unfold cmpR
  have e1 : (a - b).num = 0 ↔ a = b := by
    rw [Rat.num_eq_zero]; constructor
    · intro h; have := @Rat.sub_add_cancel a b; rw [h, Rat.zero_add] at this; exact this.symm
    · rintro rfl; exact Rat.sub_self
  have e2 : (a - b).num < 0 ↔ a < b := by
    have : ¬ 0 ≤ (a - b).num ↔ ¬ b ≤ a := by
      rw [Rat.num_nonneg, ← Rat.le_iff_sub_nonneg]
    rw [Int.not_le, Rat.not_le] at this; exact this
  by_cases h1 : a = b
  · simp [h1, Rat.sub_self]
  · by_cases h2 : a < b
    · rw [if_neg h1, if_pos h2, if_neg (fun h => h1 (e1.1 h)), if_pos (e2.2 h2)]
    · rw [if_neg h1, if_neg h2, if_neg (fun h => h1 (e1.1 h)), if_neg (fun h => h2 (e2.1 h))]
theorem rat_tri {a b : Rat} (h : a ≠ b) : a < b ∨ b < a := by
  rcases Rat.le_total (a := a) (b := b) with h' | h'
  · exact .inl (Rat.lt_of_le_of_ne h' h)
  · exact .inr (Rat.lt_of_le_of_ne h' (Ne.symm h))
theorem rat_asym {a b : Rat} (h : a < b) : ¬ b < a := Rat.not_lt.2 (Rat.le_of_lt h)
theorem rat_pos_mul {a b c : Rat} (hc : 0 < c) : cmpR (a * c) (b * c) = cmpR a b := by
  have hc0 : c ≠ 0 := fun e => by subst e; exact absurd hc (Rat.lt_irrefl)
  unfold cmpR
  by_cases h1 : a = b
  · simp [h1]
  · have n1 : ¬ a * c = b * c := fun e => h1 (by rw [← @Rat.mul_div_cancel a c hc0, e, Rat.mul_div_cancel hc0])
    by_cases h2 : a < b
    · rw [if_neg h1, if_pos h2, if_neg n1, if_pos (Rat.mul_lt_mul_of_pos_right h2 hc)]
    · rw [if_neg h1, if_neg h2, if_neg n1, if_neg]
      intro h
      have : b < a := by
        rcases rat_tri h1 with h' | h'
        · exact absurd h' h2
        · exact h'
      exact rat_asym h (Rat.mul_lt_mul_of_pos_right this hc)
theorem cmpR_add (a b c : Rat) : cmpR (a + c) (b + c) = cmpR a b := by
  unfold cmpR
  have e1 : (a + c = b + c) ↔ a = b := ⟨fun e => by rw [← @Rat.add_sub_cancel a c, e, Rat.add_sub_cancel], fun e => by rw [e]⟩
  simp only [e1, Rat.add_lt_add_right]
theorem cmpR_swap (a b : Rat) : cmpR a b = - cmpR b a := by
  unfold cmpR
  by_cases h1 : a = b
  · simp [h1]
  · rcases rat_tri h1 with h | h
    · have h' : ¬ b < a := rat_asym h
      rw [if_neg h1, if_pos h, if_neg (Ne.symm h1), if_neg h']
    · have h' : ¬ a < b := rat_asym h
      rw [if_neg h1, if_neg h', if_neg (Ne.symm h1), if_pos h]; rfl
theorem cmpR_zero (a b : Rat) : cmpR a b = 0 ↔ a = b := by
  unfold cmpR; by_cases h1 : a = b
  · simp [h1]
  · by_cases h2 : a < b <;> simp [h1, h2]
theorem cmpR_pos (c : Rat) (h : 0 < cmpR c 0) : 0 < c := by
  unfold cmpR at h
  by_cases h1 : c = 0
  · simp [h1] at h
  · by_cases h2 : c < 0
    · simp [h1, h2] at h
    · rcases rat_tri h1 with h' | h'
      · exact absurd h' h2
      · exact h'
/-- What three fields stand for: a denominator of 0 stands for 0. -/
def rv (neg : Bool) (n d : ByteArray) : Rat := mkRat (sgi neg (vn n)) (vn d)
/-- A fraction's three fields. -/
def agf (neg : Bool) (n d : ByteArray) : Value := .agg #[.bool neg, .string n, .string d]
/-- A rational in lowest terms, as the program has it. -/
def frv (q : Rat) : Value := agf (decide (q.num < 0)) (ns q.num.natAbs) (ns q.den)
/-- A fraction of a value, its parts within k bytes. -/
def Fr (v : Value) (q : Rat) (k : Nat) : Prop := ∃ neg n d, v = agf neg n d ∧ q = rv neg n d ∧ n.size ≤ k ∧ d.size ≤ k

theorem ns_one : ns 1 = ⟨#[1]⟩ := by unfold ns; rw [nb_pos 1 (by omega), nb_zero]; rfl
theorem rv_frv (q : Rat) : rv (decide (q.num < 0)) (ns q.num.natAbs) (ns q.den) = q := by
  unfold rv; rw [vn_ns, vn_ns, sgi_num, Rat.mkRat_self]
theorem Fz.fr {q : Rat} {k : Nat} (h : Fz q k) : Fr (frv q) q k :=
  ⟨_, _, _, rfl, (rv_frv q).symm, by rw [ns_size]; exact nb_length_lt h.1, by rw [ns_size]; exact nb_length_lt h.2⟩
theorem Fr.fz {v : Value} {q : Rat} {k : Nat} (h : Fr v q k) (hk : 1 ≤ k) : Fz q k := by
  obtain ⟨neg, n, d, rfl, rfl, hn, hd⟩ := h
  exact .mk (by rw [sgi_abs]; exact Nat.lt_of_lt_of_le (vn_lt n) (Nat.pow_le_pow_right (by omega) hn)) (Nat.lt_of_lt_of_le (vn_lt d) (Nat.pow_le_pow_right (by omega) hd)) hk
theorem frv_inj {p q : Rat} (h : frv p = frv q) : p = q := by
  unfold frv agf at h
  simp only [Value.agg.injEq, Array.mk.injEq, List.cons.injEq, Value.bool.injEq, Value.string.injEq, and_true] at h
  obtain ⟨h1, h2, h3⟩ := h
  rw [← rv_frv p, ← rv_frv q, h1, h2, h3]
theorem rv_zero {neg : Bool} {n d : ByteArray} (h : vn n = 0 ∨ vn d = 0) : rv neg n d = 0 := by
  unfold rv
  rcases h with h | h
  · rw [h]; cases neg <;> simp [sgi]
  · rw [h]; simp
theorem frv_zero : frv 0 = agf false ⟨#[]⟩ ⟨#[1]⟩ := by
  unfold frv
  rw [show (0 : Rat).num = 0 from rfl, show (0 : Rat).den = 1 from rfl]
  rw [show (0 : Int).natAbs = 0 from rfl, ns_zero, ns_one]
  rfl
theorem frv_nat (n : Nat) : frv ((n : Int) : Rat) = agf false (ns n) ⟨#[1]⟩ := by
  unfold frv
  rw [Rat.num_intCast, Rat.den_intCast, ns_one, decide_eq_false (by omega), Int.natAbs_natCast]
theorem frv_negnat (n : Nat) (h : n ≠ 0) : frv ((-(n : Int) : Int) : Rat) = agf true (ns n) ⟨#[1]⟩ := by
  unfold frv
  rw [Rat.num_intCast, Rat.den_intCast, ns_one, decide_eq_true (by omega), Int.natAbs_neg, Int.natAbs_natCast]
theorem rv_make {neg : Bool} {n d : ByteArray} (hn : vn n ≠ 0) (hd : vn d ≠ 0) :
    (decide ((rv neg n d).num < 0)) = neg ∧ (rv neg n d).num.natAbs = vn n / Nat.gcd (vn n) (vn d) ∧ (rv neg n d).den = vn d / Nat.gcd (vn n) (vn d) := by
  have hg : 0 < Nat.gcd (vn n) (vn d) := Nat.gcd_pos_of_pos_left _ (by omega)
  have hq : 0 < vn n / Nat.gcd (vn n) (vn d) := Nat.div_pos (Nat.le_of_dvd (by omega) (Nat.gcd_dvd_left _ _)) hg
  have key : ∀ i : Int, i.natAbs = vn n → (mkRat i (vn d)).num = i / (Nat.gcd (vn n) (vn d) : Nat) ∧ (mkRat i (vn d)).den = vn d / Nat.gcd (vn n) (vn d) := by
    intro i hi
    have e : mkRat i (vn d) = Rat.normalize i (vn d) hd := by simp [mkRat, hd]
    rw [e, Rat.normalize_eq]
    simp only [hi]
    exact ⟨trivial, trivial⟩
  cases neg
  · obtain ⟨k1, k2⟩ := key (vn n) (by simp)
    have e : (rv false n d).num = ((vn n / Nat.gcd (vn n) (vn d) : Nat) : Int) := by
      show (mkRat (vn n) (vn d)).num = _
      rw [k1, Int.natCast_ediv]
    refine ⟨?_, ?_, k2⟩
    · rw [decide_eq_false]; rw [e]; omega
    · rw [e, Int.natAbs_natCast]
  · obtain ⟨k1, k2⟩ := key (-(vn n : Int)) (by simp)
    have e : (rv true n d).num = -((vn n / Nat.gcd (vn n) (vn d) : Nat) : Int) := by
      show (mkRat (-(vn n : Int)) (vn d)).num = _
      rw [k1, Int.neg_ediv_of_dvd (Int.natCast_dvd_natCast.2 (Nat.gcd_dvd_left _ _)), Int.natCast_ediv]
    refine ⟨?_, ?_, k2⟩
    · rw [decide_eq_true]; rw [e]; omega
    · rw [e, Int.natAbs_neg, Int.natAbs_natCast]
theorem frv_make {neg : Bool} {n d : ByteArray} (hn : vn n ≠ 0) (hd : vn d ≠ 0) :
    frv (rv neg n d) = agf neg (ns (vn n / Nat.gcd (vn n) (vn d))) (ns (vn d / Nat.gcd (vn n) (vn d))) := by
  obtain ⟨h1, h2, h3⟩ := rv_make (neg := neg) hn hd
  unfold frv
  rw [h1, h2, h3]
theorem rv_add_same (a b : Bool) (x y d : ByteArray) : rv a x d + rv b y d = mkRat (sgi a (vn x) + sgi b (vn y)) (vn d) := mk_add_same _ _ _
theorem rv_add_cross (a b : Bool) (x y d e : ByteArray) (hd : vn d ≠ 0) (he : vn e ≠ 0) :
    rv a x d + rv b y e = mkRat (sgi a (vn x * vn e) + sgi b (vn y * vn d)) (vn d * vn e) := by
  unfold rv; rw [Rat.mkRat_add_mkRat _ _ hd he, sgi_mul_nat, sgi_mul_nat]
theorem rv_mul (a b : Bool) (x y d e : ByteArray) : rv a x d * rv b y e = mkRat (sgi (a != b) (vn x * vn y)) (vn d * vn e) := by
  unfold rv; rw [Rat.mkRat_mul_mkRat, sgi_mul]
theorem rv_neg (a : Bool) (x d : ByteArray) : rv (!a) x d = - rv a x d := by
  unfold rv; rw [Rat.neg_mkRat, sgi_neg]
theorem rv_ns (a : Bool) (x d : Nat) : rv a (ns x) (ns d) = mkRat (sgi a x) d := by unfold rv; rw [vn_ns, vn_ns]
theorem rv_inv (q : Rat) (h : q ≠ 0) : rv (decide (q.num < 0)) (ns q.den) (ns q.num.natAbs) = q⁻¹ := by
  rw [inv_mk q h, rv_ns]
end Go.Proofs.YtlloghbaggdhnaaDoor
