/- Plain facts on numbers as bytes: nv reads bytes (the highest first), nb writes them without noughts ahead. No program in sight. No condition. -/
import GoSem.Core.Value
import Derived.Lib.Strings
set_option linter.unusedVariables false
set_option linter.unusedSimpArgs false
namespace Go.Proofs.YtlloghbaggdhnaaDoor

/-- The number that bytes are, the highest first. -/
def nv (l : List UInt8) : Nat := l.foldl (fun n b => n * 256 + b.toNat) 0
/-- The bytes of a number, the highest first, without noughts ahead. -/
def nb (n : Nat) : List UInt8 := if n = 0 then [] else nb (n / 256) ++ [UInt8.ofNat (n % 256)]
termination_by n
decreasing_by omega
/-- The same as byte arrays. -/
def vn (s : ByteArray) : Nat := nv s.data.toList
def ns (n : Nat) : ByteArray := ⟨(nb n).toArray⟩

theorem nb_zero : nb 0 = [] := by rw [nb]; rfl
theorem nb_pos (n : Nat) (h : n ≠ 0) : nb n = nb (n / 256) ++ [UInt8.ofNat (n % 256)] := by rw [nb, if_neg h]
theorem nv_nil : nv [] = 0 := rfl
theorem nv_snoc (l : List UInt8) (b : UInt8) : nv (l ++ [b]) = nv l * 256 + b.toNat := by simp [nv, List.foldl_append]
theorem nv_cons_aux (l : List UInt8) (k : Nat) : l.foldl (fun n b => n * 256 + b.toNat) k = k * 256 ^ l.length + nv l := by
  induction l generalizing k with
  | nil => simp [nv]
  | cons b l ih =>
    simp only [List.foldl_cons, List.length_cons, nv]
    rw [ih, ih (0 * 256 + b.toNat), Nat.pow_succ]
    simp only [Nat.zero_mul, Nat.zero_add, Nat.add_mul]
    rw [Nat.mul_assoc, Nat.mul_comm 256, Nat.add_assoc]
theorem nv_cons (b : UInt8) (l : List UInt8) : nv (b :: l) = b.toNat * 256 ^ l.length + nv l := by
  have := nv_cons_aux l b.toNat
  simpa [nv] using this
theorem nv_append (l m : List UInt8) : nv (l ++ m) = nv l * 256 ^ m.length + nv m := by
  rw [nv, List.foldl_append, nv_cons_aux]; rfl
theorem nv_lt (l : List UInt8) : nv l < 256 ^ l.length := by
  induction l with
  | nil => simp [nv]
  | cons b l ih =>
    rw [nv_cons, List.length_cons, Nat.pow_succ]
    have hb := b.toNat_lt
    have : (b.toNat + 1) * 256 ^ l.length ≤ 256 * 256 ^ l.length := Nat.mul_le_mul_right _ (by omega)
    rw [Nat.add_mul, Nat.one_mul] at this
    rw [Nat.mul_comm (256 ^ l.length)]; omega
theorem nv_nb (n : Nat) : nv (nb n) = n := by
  induction n using Nat.strongRecOn with
  | _ n ih =>
    by_cases h : n = 0
    · subst h; rw [nb_zero]; rfl
    · rw [nb_pos n h, nv_snoc, ih (n / 256) (by omega)]
      have : (UInt8.ofNat (n % 256)).toNat = n % 256 := by simp
      rw [this]; omega
theorem vn_ns (n : Nat) : vn (ns n) = n := by simp [vn, ns, nv_nb]
theorem nb_inj {a b : Nat} (h : nb a = nb b) : a = b := by rw [← nv_nb a, h, nv_nb]
theorem ns_inj {a b : Nat} (h : ns a = ns b) : a = b := by rw [← vn_ns a, h, vn_ns]
theorem nb_head (n : Nat) (h : n ≠ 0) : ∃ b l, nb n = b :: l ∧ b ≠ 0 := by
  induction n using Nat.strongRecOn with
  | _ n ih =>
    rw [nb_pos n h]
    by_cases h0 : n / 256 = 0
    · rw [h0, nb_zero]
      refine ⟨_, _, rfl, fun e => ?_⟩
      have : (UInt8.ofNat (n % 256)).toNat = 0 := by rw [e]; rfl
      simp at this; omega
    · obtain ⟨b, l, e, hb⟩ := ih (n / 256) (by omega) h0
      exact ⟨b, l ++ [UInt8.ofNat (n % 256)], by rw [e]; rfl, hb⟩
/-- Bytes without noughts ahead are those of their number. -/
theorem nb_nv_head (b : UInt8) (l : List UInt8) (h : b ≠ 0) : nb (nv (b :: l)) = b :: l := by
  have key : ∀ (l r : List UInt8), l.length = r.length → nv l = nv r → l = r := by
    intro l
    induction l with
    | nil => intro r hr _; exact (List.eq_nil_of_length_eq_zero hr.symm).symm
    | cons x l ih =>
      intro r hr hv
      cases r with
      | nil => simp at hr
      | cons y r =>
        have hl : l.length = r.length := by simpa using hr
        rw [nv_cons, nv_cons, hl] at hv
        have h1 := nv_lt l; rw [hl] at h1
        have h2 := nv_lt r
        have hp : 0 < 256 ^ r.length := Nat.pow_pos (by omega)
        have hxy : x.toNat = y.toNat := by
          have a1 : (x.toNat * 256 ^ r.length + nv l) / 256 ^ r.length = x.toNat := by
            rw [Nat.mul_comm, Nat.mul_add_div hp, Nat.div_eq_of_lt h1]; simp
          have a2 : (y.toNat * 256 ^ r.length + nv r) / 256 ^ r.length = y.toNat := by
            rw [Nat.mul_comm, Nat.mul_add_div hp, Nat.div_eq_of_lt h2]; simp
          rw [← a1, hv, a2]
        have : x = y := UInt8.toNat_inj.1 hxy
        subst this
        rw [ih r hl (by omega)]
  have len : ∀ (m : List UInt8) (n : Nat), (∃ c r, m = c :: r ∧ c ≠ 0) → (∃ c r, nb n = c :: r ∧ c ≠ 0) → nv m = n → (nb n).length = m.length := by
    intro m n hm hn e
    obtain ⟨c, r, rfl, hc⟩ := hm
    obtain ⟨d, q, hq, hd⟩ := hn
    have v2 := nv_nb n
    rw [hq] at v2 ⊢
    rw [nv_cons] at v2 e
    have c1 : 1 ≤ c.toNat := by
      have : c.toNat ≠ 0 := fun e => hc (UInt8.toNat_inj.1 (by simpa using e))
      omega
    have d1 : 1 ≤ d.toNat := by
      have : d.toNat ≠ 0 := fun e => hd (UInt8.toNat_inj.1 (by simpa using e))
      omega
    have c2 := c.toNat_lt; have d2 := d.toNat_lt
    have r1 := nv_lt r; have q1 := nv_lt q
    have l1 : 256 ^ r.length ≤ n := by have := Nat.mul_le_mul_right (256 ^ r.length) c1; omega
    have l2 : 256 ^ q.length ≤ n := by have := Nat.mul_le_mul_right (256 ^ q.length) d1; omega
    have u1 : n < 256 ^ (r.length + 1) := by
      rw [Nat.pow_succ]; have := Nat.mul_le_mul_right (256 ^ r.length) (show c.toNat + 1 ≤ 256 by omega); rw [Nat.add_mul] at this; omega
    have u2 : n < 256 ^ (q.length + 1) := by
      rw [Nat.pow_succ]; have := Nat.mul_le_mul_right (256 ^ q.length) (show d.toNat + 1 ≤ 256 by omega); rw [Nat.add_mul] at this; omega
    have a : r.length < q.length + 1 := (Nat.pow_lt_pow_iff_right (by omega : 1 < 256)).1 (by omega)
    have b : q.length < r.length + 1 := (Nat.pow_lt_pow_iff_right (by omega : 1 < 256)).1 (by omega)
    simp; omega
  have hne : nv (b :: l) ≠ 0 := by
    rw [nv_cons]
    have : b.toNat ≠ 0 := fun e => h (UInt8.toNat_inj.1 (by simpa using e))
    have := Nat.mul_le_mul_right (256 ^ l.length) (show 1 ≤ b.toNat by omega)
    have hp : 0 < 256 ^ l.length := Nat.pow_pos (by omega)
    omega
  exact key _ _ (len _ _ ⟨b, l, rfl, h⟩ (nb_head _ hne) rfl) (nv_nb _)
theorem nv_dropWhile (l : List UInt8) : nv (l.dropWhile (· == 0)) = nv l := by
  induction l with
  | nil => rfl
  | cons b l ih =>
    by_cases h : b = 0
    · subst h; rw [List.dropWhile_cons_of_pos (by simp), ih, nv_cons]; simp
    · rw [List.dropWhile_cons_of_neg (by simpa using h)]
/-- Without noughts ahead: the bytes of the number. -/
theorem dropWhile_nb (l : List UInt8) : l.dropWhile (· == 0) = nb (nv l) := by
  rw [← nv_dropWhile]
  cases h : l.dropWhile (· == 0) with
  | nil => rw [nv_nil, nb_zero]
  | cons b r =>
    refine (nb_nv_head b r fun e => ?_).symm
    have := List.head?_dropWhile_not (fun x : UInt8 => x == 0) l
    rw [h] at this
    simp [e] at this
theorem nb_length_le (l : List UInt8) : (nb (nv l)).length ≤ l.length := by
  rw [← dropWhile_nb]; exact (List.dropWhile_sublist _).length_le
theorem ns_size_le (s : ByteArray) : (ns (vn s)).size ≤ s.size := by
  have := nb_length_le s.data.toList
  rw [Array.length_toList] at this
  exact this
theorem ns_size (n : Nat) : (ns n).size = (nb n).length := List.size_toArray
theorem nb_length_lt {n k : Nat} (h : n < 256 ^ k) : (nb n).length ≤ k := by
  by_cases h0 : n = 0
  · subst h0; simp [nb_zero]
  · obtain ⟨b, l, e, hb⟩ := nb_head n h0
    have v := nv_nb n
    rw [e, nv_cons] at v
    have b1 : 1 ≤ b.toNat := by
      have : b.toNat ≠ 0 := fun e => hb (UInt8.toNat_inj.1 (by simpa using e))
      omega
    have l1 : 256 ^ l.length ≤ n := by have := Nat.mul_le_mul_right (256 ^ l.length) b1; omega
    rw [e]
    have := (Nat.pow_lt_pow_iff_right (by omega : 1 < 256)).1 (Nat.lt_of_le_of_lt l1 h)
    simp; omega
theorem lt_pow_nb (n : Nat) : n < 256 ^ (nb n).length := by
  have := nv_lt (nb n); rwa [nv_nb] at this
theorem nb_mono {a b : Nat} (h : a ≤ b) : (nb a).length ≤ (nb b).length := nb_length_lt (Nat.lt_of_le_of_lt h (lt_pow_nb b))
theorem vn_lt (s : ByteArray) : vn s < 256 ^ s.size := by have := nv_lt s.data.toList; rw [Array.length_toList] at this; exact this
/-! ### Byte arrays -/
theorem bytes_size (t : ByteArray) : t.data.toList.length = t.size := Array.length_toList
theorem bytes_ext {s t : ByteArray} (h : s.data.toList = t.data.toList) : s = t := ByteArray.ext (Array.toList_inj.1 h)
theorem bytes_get (t : ByteArray) (i : Nat) (h : i < t.size) : t[i] = t.data.toList[i]'(by rw [bytes_size]; exact h) := by
  show t.data[i] = _
  rw [Array.getElem_toList]
theorem bytes_cons (t : ByteArray) (h : 0 < t.size) : t.data.toList = t[0] :: (t.extract 1 t.size).data.toList := by
  have e : (t.extract 1 t.size).data.toList = t.data.toList.drop 1 := by
    rw [ByteArray.data_extract, Array.toList_extract, List.extract_eq_take_drop, List.take_of_length_le]
    rw [List.length_drop, bytes_size]; exact Nat.le_refl _
  rw [e, bytes_get t 0 h]
  exact (List.getElem_cons_drop (i := 0) (h := by rw [bytes_size]; exact h)).symm
theorem ns_toList (n : Nat) : (ns n).data.toList = nb n := rfl
theorem vn_tail (t : ByteArray) (h : 0 < t.size) (h0 : t[0].toNat = 0) : vn (t.extract 1 t.size) = vn t := by
  unfold vn
  rw [bytes_cons t h, nv_cons, h0]; simp
theorem size_tail (t : ByteArray) : (t.extract 1 t.size).size = t.size - 1 := by rw [ByteArray.size_extract]; omega
theorem ns_of_empty (t : ByteArray) (h : t.size = 0) : t = ns (vn t) := by
  refine bytes_ext ?_
  have hl := bytes_size t
  have e : t.data.toList = [] := List.eq_nil_of_length_eq_zero (by omega)
  rw [ns_toList, vn, e, nv_nil, nb_zero]
theorem ns_of_head (t : ByteArray) (h : 0 < t.size) (h0 : t[0].toNat ≠ 0) : t = ns (vn t) := by
  refine bytes_ext ?_
  rw [ns_toList, vn, bytes_cons t h]
  exact (nb_nv_head _ _ fun e => h0 (by rw [e]; rfl)).symm
theorem toList_bytes (s : ByteArray) : s.toList = s.data.toList := ByteArray.toList_eq s
theorem toList_nil (s : ByteArray) (h : s.size = 0) : s.toList = [] := by rw [toList_bytes]; exact List.eq_nil_of_length_eq_zero (by rw [bytes_size]; exact h)
theorem toList_ne (s : ByteArray) (h : s.size ≠ 0) : ¬ s.toList = [] := by rw [toList_bytes]; intro e; have := bytes_size s; rw [e] at this; exact h this.symm
theorem isEmpty_false (s : ByteArray) (h : s.size ≠ 0) : s.toList.isEmpty = false := by have := toList_ne s h; cases e : s.toList with | nil => exact absurd e this | cons b l => rfl
/-- The size of a string in a slot: a measure. -/
def strLen : Value → Nat | .string t => t.size | _ => 0
end Go.Proofs.YtlloghbaggdhnaaDoor
