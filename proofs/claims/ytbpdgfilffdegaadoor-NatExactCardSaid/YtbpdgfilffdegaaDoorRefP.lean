/- Plain laws of numbers byte by byte: what stands behind a place, what stands ahead of it, digits from the end. -/
import Derived.Test.YtbpdgfilffdegaaDoorNatP
set_option linter.unusedVariables false
namespace Go.Proofs.YtbpdgfilffdegaaDoor

theorem drop_toList (s : ByteArray) (i : Nat) : (s.extract i s.size).data.toList = s.data.toList.drop i := by
  rw [ByteArray.data_extract, Array.toList_extract, List.extract_eq_take_drop]
  exact List.take_of_length_le (by rw [List.length_drop, bytes_size]; omega)
theorem drop_succ (s : ByteArray) (i : Nat) (h : i < s.size) : s.data.toList.drop i = s[i] :: s.data.toList.drop (i + 1) := by
  rw [List.drop_eq_getElem_cons (by rw [bytes_size]; exact h), bytes_get]
theorem take_succ (s : ByteArray) (i : Nat) (h : i < s.size) : s.data.toList.take (i + 1) = s.data.toList.take i ++ [s[i]] := by
  rw [List.take_add_one, List.getElem?_eq_getElem (by rw [bytes_size]; exact h), bytes_get]; rfl
theorem nv_take_all (s : ByteArray) (i : Nat) (h : s.size ≤ i) : nv (s.data.toList.take i) = vn s := by
  rw [List.take_of_length_le (by rw [bytes_size]; exact h)]; rfl
theorem nv_take_pow (s : ByteArray) (i : Nat) : nv (s.data.toList.take i) < 256 ^ i :=
  Nat.lt_of_lt_of_le (nv_lt _) (Nat.pow_le_pow_right (by omega) (by rw [List.length_take]; exact Nat.min_le_left _ _))
theorem nv_drop_zero (s : ByteArray) (i : Nat) (h : i < s.size) (h0 : s[i].toNat = 0) : nv (s.data.toList.drop (i + 1)) = nv (s.data.toList.drop i) := by
  rw [drop_succ s i h, nv_cons, h0, Nat.zero_mul, Nat.zero_add]
theorem extract_head (s : ByteArray) (i : Nat) (h : i < s.size) : ∃ h', (s.extract i s.size)[0]'h' = s[i] := by
  have hs : (s.extract i s.size).size = s.size - i := by rw [ByteArray.size_extract]; omega
  refine ⟨by omega, ?_⟩
  rw [bytes_get, bytes_get]
  simp only [drop_toList]
  rw [List.getElem_drop]; rfl
theorem extract_ns (s : ByteArray) (i : Nat) (h : i < s.size) (h0 : s[i].toNat ≠ 0) (hv : nv (s.data.toList.drop i) = vn s) : s.extract i s.size = ns (vn s) := by
  obtain ⟨h', e⟩ := extract_head s i h
  have := ns_of_head (s.extract i s.size) h' (by rw [e]; exact h0)
  rw [this]; unfold vn at *; rw [drop_toList, hv]
theorem extract_ns0 (s : ByteArray) (i : Nat) (h : i = s.size) (hv : nv (s.data.toList.drop i) = vn s) : s.extract i s.size = ns (vn s) := by
  have := ns_of_empty (s.extract i s.size) (by rw [ByteArray.size_extract]; omega)
  rw [this]; unfold vn at *; rw [drop_toList, hv]

/-- The digit i from the end. -/
theorem digit_eq (s : ByteArray) (i : Nat) (h : i < s.size) (h' : s.size - 1 - i < s.size) : (s[s.size - 1 - i]'h').toNat = vn s / 256 ^ i % 256 := by
  obtain ⟨k, hk⟩ : ∃ k, k = s.size - 1 - i := ⟨_, rfl⟩
  have e : s.data.toList = (s.data.toList.take k ++ [s[k]'(by omega)]) ++ s.data.toList.drop (k + 1) := by
    rw [← take_succ s k (by omega), List.take_append_drop]
  have hv : vn s = nv ((s.data.toList.take k ++ [s[k]'(by omega)]) ++ s.data.toList.drop (k + 1)) := congrArg nv e
  have hl : (s.data.toList.drop (k + 1)).length = i := by rw [List.length_drop, bytes_size]; omega
  have hlt := nv_lt (s.data.toList.drop (k + 1))
  rw [hl] at hlt
  rw [nv_append, hl, nv_snoc] at hv
  have h3 : vn s / 256 ^ i = nv (s.data.toList.take k) * 256 + (s[k]'(by omega)).toNat := by
    rw [hv, Nat.add_comm, Nat.add_mul_div_right _ _ (Nat.pow_pos (by omega)), Nat.div_eq_of_lt hlt, Nat.zero_add]
  have := (s[k]'(by omega)).toNat_lt
  rw [h3, Nat.mul_add_mod_self_right, Nat.mod_eq_of_lt this]
  subst hk; rfl
theorem digit_zero (s : ByteArray) (i : Nat) (h : s.size ≤ i) : vn s / 256 ^ i % 256 = 0 := by
  rw [Nat.div_eq_of_lt (Nat.lt_of_lt_of_le (vn_lt s) (Nat.pow_le_pow_right (by omega) h))]

/-- Digits, the lowest first. -/
def lo8 : List Nat → Nat
  | [] => 0
  | d :: l => d + 256 * lo8 l
theorem lo8_append (l m : List Nat) : lo8 (l ++ m) = lo8 l + 256 ^ l.length * lo8 m := by
  induction l with
  | nil => simp [lo8]
  | cons d l ih => simp only [List.cons_append, lo8, ih, List.length_cons, Nat.pow_succ]; rw [Nat.mul_add, ← Nat.mul_assoc, Nat.mul_comm 256 (256 ^ l.length)]; omega
theorem lo8_snoc (l : List Nat) (d : Nat) : lo8 (l ++ [d]) = lo8 l + 256 ^ l.length * d := by rw [lo8_append]; simp [lo8]
theorem lo8_zeros (n : Nat) : lo8 (List.replicate n 0) = 0 := by
  induction n with
  | zero => rfl
  | succ n ih => rw [List.replicate_succ, lo8, ih]
theorem nv_rev (l : List Nat) (h : ∀ d ∈ l, d < 256) : nv (l.reverse.map UInt8.ofNat) = lo8 l := by
  induction l with
  | nil => rfl
  | cons d l ih =>
    rw [List.reverse_cons, List.map_append, List.map_cons, List.map_nil, nv_snoc, ih (fun x hx => h x (List.mem_cons_of_mem _ hx)), lo8]
    have := h d (List.mem_cons_self ..)
    simp; omega
end Go.Proofs.YtbpdgfilffdegaaDoor
