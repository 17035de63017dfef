/- Plain facts on limbs: bits, a limb that is set. No program in sight. No condition. -/
import Derived.Test.YtlloghbaggdhnaaDoorLimbP
set_option linter.unusedVariables false
set_option linter.unusedSimpArgs false
namespace Go.Proofs.YtlloghbaggdhnaaDoor

theorem pow32 (k b : Nat) : 2 ^ (32 * k + b) = 4294967296 ^ k * 2 ^ b := by rw [Nat.pow_add, Nat.pow_mul]
theorem long_bit (l : List Nat) (s k b x : Nat) (hs : s = 32 * k + b) (hb : b < 32) (hk : k < l.length) (hl : Lim l) (hx : l.getD k default = x) :
    lv l / 2 ^ s = 2 * (lv l / 2 ^ (s + 1)) + x / 2 ^ b % 2 := by
  have h1 := lv_lt (lim_take hl k)
  rw [List.length_take, Nat.min_eq_left (by omega)] at h1
  have hpos : 0 < 4294967296 ^ k := Nat.pow_pos (by omega)
  have e1 : lv l / 2 ^ s = (x + 4294967296 * lv (l.drop (k + 1))) / 2 ^ b := by
    rw [hs, pow32, ← Nat.div_div_eq_div_mul, lv_at l k hk, hx, Nat.add_mul_div_left _ _ hpos, Nat.div_eq_of_lt h1, Nat.zero_add]
  have e2 : (x + 4294967296 * lv (l.drop (k + 1))) / 2 ^ b = x / 2 ^ b + 2 * (2 ^ (31 - b) * lv (l.drop (k + 1))) := by
    have : 4294967296 = 2 ^ b * (2 * 2 ^ (31 - b)) := by
      rw [← Nat.pow_succ', ← Nat.pow_add, show b + (31 - b).succ = 32 by omega]
    rw [this, Nat.mul_assoc, Nat.add_mul_div_left _ _ (Nat.pow_pos (by omega)), Nat.mul_assoc]
  have e3 : lv l / 2 ^ (s + 1) = lv l / 2 ^ s / 2 := by rw [Nat.pow_succ, Nat.div_div_eq_div_mul]
  rw [e3, e1, e2]
  omega
theorem lv_set (l : List Nat) (k y : Nat) (h : k < l.length) : lv (l.set k y) + 4294967296 ^ k * l.getD k default = lv l + 4294967296 ^ k * y := by
  rw [lv_at l k h, lv_at (l.set k y) k (by simpa using h), List.take_set_of_le (Nat.le_refl _), List.drop_set_of_lt (by omega)]
  have e : (l.set k y).getD k default = y := by rw [List.getD_eq_getElem?_getD, List.getElem?_set_self h]; rfl
  rw [e, Nat.mul_add, Nat.mul_add]
  omega
theorem lim_set {l : List Nat} (h : Lim l) (k y : Nat) (hy : y < 4294967296) : Lim (l.set k y) := fun x hx => by
  rcases List.mem_or_eq_of_mem_set hx with h' | rfl
  · exact h x h'
  · exact hy
theorem set_bit (l : List Nat) (Q s k b q : Nat) (hs : s = 32 * k + b) (hb : b < 32) (hk : k < l.length) (hl : Lim l) (hq : l.getD k default = q) (h : lv l = Q * 2 ^ (s + 1)) :
    q ||| 2 ^ b = q + 2 ^ b ∧ q + 2 ^ b < 4294967296 ∧ lv (l.set k (q + 2 ^ b)) = (2 * Q + 1) * 2 ^ s := by
  have h1 := lv_lt (lim_take hl k)
  rw [List.length_take, Nat.min_eq_left (by omega)] at h1
  have hqlt : q < 4294967296 := by rw [← hq]; exact lim_get hl k default hk
  have hpos : 0 < 4294967296 ^ k := Nat.pow_pos (by omega)
  have hat := lv_at l k hk
  rw [hq, h, hs, show 32 * k + b + 1 = 32 * k + (b + 1) by omega, pow32] at hat
  have hlo : lv (l.take k) = 0 := by
    have : (Q * (4294967296 ^ k * 2 ^ (b + 1))) % 4294967296 ^ k = 0 := by rw [Nat.mul_left_comm]; exact Nat.mul_mod_right _ _
    rw [hat, Nat.add_mul_mod_self_left, Nat.mod_eq_of_lt h1] at this
    exact this
  rw [hlo, Nat.zero_add, Nat.mul_left_comm] at hat
  have hq2 := Nat.eq_of_mul_eq_mul_left hpos hat
  have hB : 4294967296 = 2 ^ (b + 1) * 2 ^ (31 - b) := by rw [← Nat.pow_add, show b + 1 + (31 - b) = 32 by omega]
  have hmod : q % 2 ^ (b + 1) = 0 := by
    have : (Q * 2 ^ (b + 1)) % 2 ^ (b + 1) = 0 := Nat.mul_mod_left _ _
    rw [hq2, hB, Nat.mul_assoc, Nat.add_mul_mod_self_left] at this
    exact this
  have hqd : q = q / 2 ^ (b + 1) * 2 ^ (b + 1) := by have := Nat.div_add_mod q (2 ^ (b + 1)); rw [hmod, Nat.mul_comm] at this; omega
  have hp2 : 2 ^ b < 2 ^ (b + 1) := Nat.pow_lt_pow_right (by omega) (by omega)
  refine ⟨?_, ?_, ?_⟩
  · conv => lhs; rw [hqd]
    have : q / 2 ^ (b + 1) * 2 ^ (b + 1) ||| 2 ^ b = q / 2 ^ (b + 1) * 2 ^ (b + 1) + 2 ^ b := by
      rw [← Nat.shiftLeft_eq, Nat.shiftLeft_add_eq_or_of_lt hp2]
    rw [this, ← hqd]
  · have hc : q / 2 ^ (b + 1) < 2 ^ (31 - b) := by
      rw [Nat.div_lt_iff_lt_mul (Nat.pow_pos (by omega)), Nat.mul_comm, ← hB]; exact hqlt
    have := Nat.mul_le_mul_right (2 ^ (b + 1)) (show q / 2 ^ (b + 1) + 1 ≤ 2 ^ (31 - b) by omega)
    rw [Nat.add_mul, Nat.one_mul, ← hqd, Nat.mul_comm (2 ^ (31 - b)), ← hB] at this
    omega
  · have := lv_set l k (q + 2 ^ b) hk
    rw [hq, Nat.mul_add, h] at this
    have e : 2 ^ s = 4294967296 ^ k * 2 ^ b := by rw [hs, pow32]
    rw [Nat.add_mul, Nat.one_mul, e]
    have e2 : Q * 2 ^ (s + 1) = 2 * Q * 2 ^ s := by rw [Nat.pow_succ, Nat.mul_comm (2 ^ s) 2, ← Nat.mul_assoc, Nat.mul_comm Q 2]
    rw [e2, e] at this
    omega
theorem long_top (l : List Nat) (hl : Lim l) : lv l / 2 ^ (32 * l.length) = 0 := by
  rw [Nat.pow_mul]
  exact Nat.div_eq_of_lt (lv_lt hl)
theorem get_zero (l : List Nat) (j : Nat) (hj : j < l.length) (h : lv l < 4294967296 ^ j) : l.getD j default = 0 := by
  rw [lv_at l j hj] at h
  rcases Nat.eq_zero_or_pos (l.getD j default) with h0 | h0
  · exact h0
  · have := Nat.mul_le_mul_left (4294967296 ^ j) (show 1 ≤ l.getD j default + 4294967296 * lv (l.drop (j + 1)) by omega)
    omega
theorem getD_drop (l m : List Nat) (i : Nat) (h : l.drop i = m.drop i) : l.getD i default = m.getD i default := by
  have := congrArg (fun z => z[0]?) h
  simp only [List.getElem?_drop, Nat.add_zero] at this
  rw [List.getD_eq_getElem?_getD, this, List.getD_eq_getElem?_getD]
theorem mul_step (os os0 m : List Nat) (i k c x y o t : Nat) (hk : k < m.length) (hy : m.getD k default = y) (hik : i + k < os.length) (ho : os.getD (i + k) default = o)
    (ht : t = c + (x * y + o)) (h : lv os + 4294967296 ^ (i + k) * c = lv os0 + 4294967296 ^ i * (x * lv (m.take k))) :
    lv (os.set (i + k) (t % 4294967296)) + 4294967296 ^ (i + (k + 1)) * (t / 4294967296) = lv os0 + 4294967296 ^ i * (x * lv (m.take (k + 1))) := by
  have h1 := lv_set os (i + k) (t % 4294967296) hik
  rw [ho] at h1
  have h2 : 4294967296 ^ (i + k) * t = 4294967296 ^ (i + k) * (t % 4294967296) + 4294967296 ^ (i + (k + 1)) * (t / 4294967296) := by
    rw [← Nat.add_assoc, Nat.pow_succ, Nat.mul_assoc, ← Nat.mul_add, Nat.mod_add_div]
  have h3 : 4294967296 ^ (i + k) * t = 4294967296 ^ (i + k) * c + (4294967296 ^ (i + k) * (x * y) + 4294967296 ^ (i + k) * o) := by rw [ht, Nat.mul_add, Nat.mul_add]
  have h4 : 4294967296 ^ i * (x * lv (m.take (k + 1))) = 4294967296 ^ i * (x * lv (m.take k)) + 4294967296 ^ (i + k) * (x * y) := by
    rw [take_snoc m k hk, lv_snoc, List.length_take, Nat.min_eq_left (by omega), hy, Nat.mul_add, Nat.mul_add, Nat.pow_add, Nat.mul_left_comm x, Nat.mul_assoc]
  omega
theorem mul_bound (c x y o : Nat) (hc : c < 4294967296) (hx : x < 4294967296) (hy : y < 4294967296) (ho : o < 4294967296) : c + (x * y + o) < 18446744073709551616 := by
  have h1 := Nat.mul_le_mul (show x ≤ 4294967295 by omega) (show y ≤ 4294967295 by omega)
  omega
theorem mul_row (os os0 l m : List Nat) (i c x : Nat) (hi : i < l.length) (hx : l.getD i default = x) (hlen : os0.length = l.length + m.length) (hos : os.length = os0.length)
    (h0 : lv os0 = lv (l.take i) * lv m) (hl : Lim l) (hm : Lim m) (hd : os.drop (i + m.length) = os0.drop (i + m.length))
    (h : lv os + 4294967296 ^ (i + m.length) * c = lv os0 + 4294967296 ^ i * (x * lv (m.take m.length))) :
    lv (os.set (i + m.length) c) = lv (l.take (i + 1)) * lv m := by
  rw [List.take_of_length_le (Nat.le_refl _)] at h
  have hlt : lv os0 < 4294967296 ^ (i + m.length) := by
    have a1 := lv_lt (lim_take hl i)
    rw [List.length_take, Nat.min_eq_left (by omega)] at a1
    have a2 := lv_lt hm
    rw [h0, Nat.pow_add]
    exact Nat.mul_lt_mul'' a1 a2
  have hz : os.getD (i + m.length) default = 0 := by rw [getD_drop os os0 _ hd]; exact get_zero os0 _ (by omega) hlt
  have h1 := lv_set os (i + m.length) c (by omega)
  rw [hz] at h1
  have h2 : lv (l.take (i + 1)) * lv m = lv (l.take i) * lv m + 4294967296 ^ i * (x * lv m) := by
    rw [take_snoc l i hi, lv_snoc, List.length_take, Nat.min_eq_left (by omega), hx, Nat.add_mul, Nat.mul_assoc]
  omega
end Go.Proofs.YtlloghbaggdhnaaDoor
