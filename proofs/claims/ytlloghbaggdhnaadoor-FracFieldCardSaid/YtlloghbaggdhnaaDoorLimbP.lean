/- Plain facts on numbers as limbs of 32 bits, the lowest first. No program in sight. No condition. -/
import Derived.Test.YtlloghbaggdhnaaDoorNatP
set_option linter.unusedVariables false
set_option linter.unusedSimpArgs false
namespace Go.Proofs.YtlloghbaggdhnaaDoor

def lv (l : List Nat) : Nat := l.foldr (fun x n => x + 4294967296 * n) 0
def Lim (l : List Nat) : Prop := ∀ x, x ∈ l → x < 4294967296
/-- No nought at the end. -/
def Can (l : List Nat) : Prop := ∀ x, l.getLast? = some x → x ≠ 0
def ltrim (l : List Nat) : List Nat := (l.reverse.dropWhile (· == 0)).reverse
def limbVals (l : List Nat) : List Value := l.map fun x : Nat => Value.int .u32 (x : Int)

theorem lv_nil : lv [] = 0 := rfl
theorem lv_cons (x : Nat) (l : List Nat) : lv (x :: l) = x + 4294967296 * lv l := rfl
theorem lv_append (l m : List Nat) : lv (l ++ m) = lv l + 4294967296 ^ l.length * lv m := by
  induction l with
  | nil => simp [lv_nil]
  | cons x l ih =>
    rw [List.cons_append, lv_cons, ih, lv_cons, List.length_cons, Nat.pow_succ, Nat.mul_add, Nat.mul_comm (4294967296 ^ l.length) 4294967296, Nat.mul_assoc]
    omega
theorem lv_snoc (l : List Nat) (x : Nat) : lv (l ++ [x]) = lv l + 4294967296 ^ l.length * x := by rw [lv_append, lv_cons, lv_nil, Nat.mul_zero, Nat.add_zero]
theorem lim_nil : Lim [] := fun x h => by cases h
theorem lim_cons {x : Nat} {l : List Nat} : Lim (x :: l) ↔ x < 4294967296 ∧ Lim l := by simp [Lim]
theorem lim_append {l m : List Nat} : Lim (l ++ m) ↔ Lim l ∧ Lim m := by
  simp only [Lim, List.mem_append]
  exact ⟨fun h => ⟨fun x hx => h x (.inl hx), fun x hx => h x (.inr hx)⟩, fun h x hx => hx.elim (h.1 x) (h.2 x)⟩
theorem lim_take {l : List Nat} (h : Lim l) (k : Nat) : Lim (l.take k) := fun x hx => h x (List.mem_of_mem_take hx)
theorem lim_get {l : List Nat} (h : Lim l) (i : Nat) (d : Nat) (hi : i < l.length) : l.getD i d < 4294967296 := by
  rw [List.getD_eq_getElem?_getD, List.getElem?_eq_getElem hi]; exact h _ (List.getElem_mem hi)
theorem lv_lt {l : List Nat} (h : Lim l) : lv l < 4294967296 ^ l.length := by
  induction l with
  | nil => simp [lv_nil]
  | cons x l ih =>
    obtain ⟨h1, h2⟩ := lim_cons.1 h
    rw [lv_cons, List.length_cons, Nat.pow_succ]
    have := ih h2
    omega
theorem lv_zeros (n : Nat) : lv (List.replicate n 0) = 0 := by
  induction n with
  | zero => rfl
  | succ n ih => rw [List.replicate_succ, lv_cons, ih]
theorem can_nil : Can [] := fun x h => by simp at h
theorem lv_ltrim (l : List Nat) : lv (ltrim l) = lv l := by
  have key : ∀ r : List Nat, lv (r.dropWhile (· == 0)).reverse = lv r.reverse := by
    intro r
    induction r with
    | nil => rfl
    | cons x r ih =>
      by_cases h : x = 0
      · subst h
        rw [List.dropWhile_cons_of_pos (by simp), ih, List.reverse_cons, lv_snoc]; simp
      · rw [List.dropWhile_cons_of_neg (by simpa using h)]
  have := key l.reverse
  rwa [List.reverse_reverse] at this
theorem can_ltrim (l : List Nat) : Can (ltrim l) := by
  intro x h
  unfold ltrim at h
  rw [List.getLast?_reverse] at h
  have := List.head?_dropWhile_not (fun x : Nat => x == 0) l.reverse
  rw [h] at this
  simpa using this
theorem ltrim_length (l : List Nat) : (ltrim l).length ≤ l.length := by
  unfold ltrim
  rw [List.length_reverse]
  exact Nat.le_trans (List.dropWhile_sublist _).length_le (by simp)
theorem lim_ltrim {l : List Nat} (h : Lim l) : Lim (ltrim l) := fun x hx => h x (by
  unfold ltrim at hx
  rw [List.mem_reverse] at hx
  have := (List.dropWhile_sublist (fun x : Nat => x == 0)).subset hx
  simpa using this)
theorem ltrim_snoc_zero (l : List Nat) : ltrim (l ++ [0]) = ltrim l := by simp [ltrim]
theorem ltrim_snoc (l : List Nat) (x : Nat) (h : x ≠ 0) : ltrim (l ++ [x]) = l ++ [x] := by
  unfold ltrim
  rw [List.reverse_append]
  simp only [List.reverse_cons, List.reverse_nil, List.nil_append, List.cons_append]
  rw [List.dropWhile_cons_of_neg (by simpa using h)]
  simp
theorem ltrim_nil : ltrim [] = [] := rfl
theorem take_snoc {α : Type} [Inhabited α] (l : List α) (k : Nat) (h : k < l.length) : l.take (k + 1) = l.take k ++ [l.getD k default] := by
  rw [List.take_succ_eq_append_getElem h, List.getD_eq_getElem?_getD, List.getElem?_eq_getElem h]; rfl
/-- A number with no nought ahead is at least its highest limb's place. -/
theorem can_ge {l : List Nat} (h : Can l) (hne : l ≠ []) : 4294967296 ^ (l.length - 1) ≤ lv l := by
  obtain ⟨m, x, rfl⟩ : ∃ m x, l = m ++ [x] := ⟨l.dropLast, l.getLast hne, (List.dropLast_concat_getLast hne).symm⟩
  have hx : x ≠ 0 := h x (by simp)
  rw [lv_snoc]
  simp only [List.length_append, List.length_cons, List.length_nil]
  have := Nat.mul_le_mul_left (4294967296 ^ m.length) (show 1 ≤ x by omega)
  simp only [Nat.add_sub_cancel]
  omega
theorem can_length_lt {l m : List Nat} (hl : Lim l) (hm : Can m) (h : l.length < m.length) : lv l < lv m := by
  have h1 := lv_lt hl
  have h2 := can_ge hm (by intro e; rw [e] at h; simp at h)
  have h3 : 4294967296 ^ l.length ≤ 4294967296 ^ (m.length - 1) := Nat.pow_le_pow_right (by omega) (by omega)
  omega
theorem can_zero {l : List Nat} (h : Can l) : lv l = 0 ↔ l = [] := by
  constructor
  · intro e
    by_cases hn : l = []
    · exact hn
    · have := can_ge h hn
      have : 0 < 4294967296 ^ (l.length - 1) := Nat.pow_pos (by omega)
      omega
  · rintro rfl; rfl
/-- The size of a number of so many limbs. -/
theorem can_length_le {l : List Nat} (h : Can l) {k : Nat} (hk : lv l < 4294967296 ^ k) : l.length ≤ k := by
  by_cases hn : l = []
  · subst hn; simp
  · have h1 := can_ge h hn
    have := (Nat.pow_lt_pow_iff_right (by omega : 1 < 4294967296)).1 (Nat.lt_of_le_of_lt h1 hk)
    omega
theorem lv_take_drop (l : List Nat) (k : Nat) (h : k ≤ l.length) : lv l = lv (l.take k) + 4294967296 ^ k * lv (l.drop k) := by
  have := lv_append (l.take k) (l.drop k)
  rw [List.take_append_drop, List.length_take, Nat.min_eq_left h] at this
  exact this
theorem pow_split (n : Nat) : (4294967296 : Nat) ^ n = 256 ^ (4 * n) := by rw [Nat.pow_mul]
/-- One limb more: the four bytes ahead. -/
theorem split_step (l t : List UInt8) (ls : List Nat) (E i : Nat) (hE : E + 4 * i = l.length) (hi : ls.length = i) (h : lv ls = nv (l.drop E)) (ht : t = (l.take E).drop (E - 4)) :
    lv (ls ++ [nv t]) = nv (l.drop (E - 4)) := by
  have e : l.drop (E - 4) = t ++ l.drop E := by
    rw [ht]
    conv => lhs; rw [← List.take_append_drop E l]
    rw [List.drop_append_of_le_length (by rw [List.length_take]; omega)]
  rw [e, nv_append, lv_snoc, h, hi, pow_split, List.length_drop, show l.length - E = 4 * i by omega, Nat.mul_comm]
  omega
theorem chunk_lt (l : List UInt8) (E : Nat) : nv ((l.take E).drop (E - 4)) < 4294967296 := by
  have h := nv_lt ((l.take E).drop (E - 4))
  have : ((l.take E).drop (E - 4)).length ≤ 4 := by rw [List.length_drop, List.length_take]; omega
  have := Nat.pow_le_pow_right (n := 256) (by omega) this
  omega
/-- One step of a sum. -/
theorem add_step (l m o : List Nat) (k c y : Nat) (hk : k < l.length) (ho : o.length = k) (hy : y = if k < m.length then m.getD k default else 0)
    (h : lv o + 4294967296 ^ k * c = lv (l.take k) + lv (m.take k)) :
    lv (o ++ [(c + l.getD k default + y) % 4294967296]) + 4294967296 ^ (k + 1) * ((c + l.getD k default + y) / 4294967296) = lv (l.take (k + 1)) + lv (m.take (k + 1)) := by
  have hl : lv (l.take (k + 1)) = lv (l.take k) + 4294967296 ^ k * l.getD k default := by
    rw [take_snoc l k hk, lv_snoc, List.length_take, Nat.min_eq_left (by omega)]
  have hm : lv (m.take (k + 1)) = lv (m.take k) + 4294967296 ^ k * y := by
    by_cases h1 : k < m.length
    · rw [take_snoc m k h1, lv_snoc, List.length_take, Nat.min_eq_left (by omega), hy, if_pos h1]
    · rw [hy, if_neg h1, List.take_of_length_le (by omega), List.take_of_length_le (by omega)]; simp
  rw [hl, hm, lv_snoc, ho]
  generalize hx : l.getD k default = x at *
  have hs : 4294967296 ^ k * (c + x + y) = 4294967296 ^ k * ((c + x + y) % 4294967296) + 4294967296 ^ (k + 1) * ((c + x + y) / 4294967296) := by
    rw [Nat.pow_succ, Nat.mul_assoc, ← Nat.mul_add, Nat.mod_add_div]
  have hd : 4294967296 ^ k * (c + x + y) = 4294967296 ^ k * c + 4294967296 ^ k * x + 4294967296 ^ k * y := by rw [Nat.mul_add, Nat.mul_add]
  omega
/-- One step of a difference. -/
theorem sub_step (l m o : List Nat) (k c y r c' : Nat) (hk : k < l.length) (ho : o.length = k) (hy : y = if k < m.length then m.getD k default else 0)
    (h : lv o + lv (m.take k) = lv (l.take k) + 4294967296 ^ k * c) (hr : r + (c + y) = l.getD k default + 4294967296 * c') :
    lv (o ++ [r]) + lv (m.take (k + 1)) = lv (l.take (k + 1)) + 4294967296 ^ (k + 1) * c' := by
  have hl : lv (l.take (k + 1)) = lv (l.take k) + 4294967296 ^ k * l.getD k default := by
    rw [take_snoc l k hk, lv_snoc, List.length_take, Nat.min_eq_left (by omega)]
  have hm : lv (m.take (k + 1)) = lv (m.take k) + 4294967296 ^ k * y := by
    by_cases h1 : k < m.length
    · rw [take_snoc m k h1, lv_snoc, List.length_take, Nat.min_eq_left (by omega), hy, if_pos h1]
    · rw [hy, if_neg h1, List.take_of_length_le (by omega), List.take_of_length_le (by omega)]; simp
  rw [hl, hm, lv_snoc, ho]
  generalize hx : l.getD k default = x at *
  have e1 : 4294967296 ^ k * r + (4294967296 ^ k * c + 4294967296 ^ k * y) = 4294967296 ^ k * x + 4294967296 ^ (k + 1) * c' := by
    rw [← Nat.mul_add, ← Nat.mul_add, hr, Nat.mul_add, Nat.pow_succ, Nat.mul_assoc]
  omega
theorem lv_at (l : List Nat) (k : Nat) (h : k < l.length) : lv l = lv (l.take k) + 4294967296 ^ k * (l.getD k default + 4294967296 * lv (l.drop (k + 1))) := by
  rw [lv_take_drop l k (by omega), List.drop_eq_getElem_cons h, lv_cons, List.getD_eq_getElem?_getD, List.getElem?_eq_getElem h]; rfl
theorem less_lt {l m : List Nat} (hl : Lim l) (k : Nat) (hlen : l.length = m.length) (hk : k < l.length) (hd : l.drop (k + 1) = m.drop (k + 1)) (hx : l.getD k default < m.getD k default) : lv l < lv m := by
  rw [lv_at l k hk, lv_at m k (by omega), hd]
  have h1 := lv_lt (lim_take hl k)
  rw [List.length_take, Nat.min_eq_left (by omega)] at h1
  have := Nat.mul_le_mul_left (4294967296 ^ k) (show l.getD k default + 4294967296 * lv (m.drop (k + 1)) + 1 ≤ m.getD k default + 4294967296 * lv (m.drop (k + 1)) by omega)
  rw [Nat.mul_add] at this
  omega
theorem drop_step {l m : List Nat} (k : Nat) (hlen : l.length = m.length) (hk : k < l.length) (hd : l.drop (k + 1) = m.drop (k + 1)) (hx : l.getD k default = m.getD k default) : l.drop k = m.drop k := by
  rw [List.drop_eq_getElem_cons hk, List.drop_eq_getElem_cons (show k < m.length by omega), hd]
  congr 1
  rwa [List.getD_eq_getElem?_getD, List.getElem?_eq_getElem hk, List.getD_eq_getElem?_getD, List.getElem?_eq_getElem (by omega)] at hx
theorem limbs_le {l : List Nat} {n k : Nat} (hc : Can l) (h : lv l = n) (hn : n < 256 ^ k) : l.length ≤ (k + 3) / 4 := by
  refine can_length_le hc ?_
  rw [h, pow_split]
  exact Nat.lt_of_lt_of_le hn (Nat.pow_le_pow_right (by omega) (by omega))
end Go.Proofs.YtlloghbaggdhnaaDoor
