/- nat.Parse whole, and the plain law of digits: parse of text gives back, and text of parse. -/
import Derived.Test.YtlloghbaggdhnaaDoorNatR
set_option linter.unusedVariables false
set_option linter.unusedSimpArgs false
namespace Go.Proofs.YtlloghbaggdhnaaDoor
open Go.RowKit

theorem parse_any (s : ByteArray) (w : World) (hm : s.size ≤ maxLen) :
    Calls Tryd.prog 77 #[.string s] w (RetParse w (parseVal s.data.toList) (parseErr s.data.toList)) := by
  by_cases h : s.size = 0
  · have hl : s.data.toList = [] := List.eq_nil_of_length_eq_zero (by rw [bytes_size]; exact h)
    have e : parseErr s.data.toList = 1 := by rw [parseErr, if_pos (.inl hl)]
    rw [parseVal, e, if_neg (by decide)]
    exact parse_bad1 s w h
  · by_cases h1 : 1 < s.size ∧ s.data.toList.getD 0 0 = 48
    · have e : parseErr s.data.toList = 1 := by rw [parseErr, if_pos (.inr (by rw [bytes_size]; exact h1))]
      rw [parseVal, e, if_neg (by decide)]
      refine parse_bad2 s w hm h1.1 ?_
      have := h1.2
      rw [List.getD_eq_getElem?_getD, List.getElem?_eq_getElem (by rw [bytes_size]; omega), ← bytes_get s 0 (by omega), Option.getD_some] at this
      rw [this]; rfl
    · exact parse_more s w hm (by omega) h1

theorem dval_nil : dval [] = 0 := rfl
theorem dval_dec (n : Nat) : dval (dec n) = n := by
  induction n using Nat.strongRecOn with
  | _ n ih =>
    by_cases h : n = 0
    · subst h; rw [dec_zero]; rfl
    · rw [dec_pos n h, dval_snoc, ih (n / 10) (by omega)]
      have : (UInt8.ofNat (48 + n % 10)).toNat = 48 + n % 10 := by simp; omega
      rw [this]; omega
theorem dec_digits (n : Nat) : (dec n).all isDig = true := by
  induction n using Nat.strongRecOn with
  | _ n ih =>
    by_cases h : n = 0
    · subst h; rw [dec_zero]; rfl
    · rw [dec_pos n h, List.all_append, ih (n / 10) (by omega)]
      have : (UInt8.ofNat (48 + n % 10)).toNat = 48 + n % 10 := by simp; omega
      simp [isDig, this]; omega
theorem dec_head (n : Nat) (h : n ≠ 0) : ∃ c l, dec n = c :: l ∧ c ≠ 48 := by
  induction n using Nat.strongRecOn with
  | _ n ih =>
    rw [dec_pos n h]
    by_cases h0 : n / 10 = 0
    · rw [h0, dec_zero]
      refine ⟨_, _, rfl, fun e => ?_⟩
      have h2 := congrArg UInt8.toNat e
      have : (UInt8.ofNat (48 + n % 10)).toNat = 48 + n % 10 := by simp; omega
      rw [this] at h2
      have : (48 : UInt8).toNat = 48 := rfl
      omega
    · obtain ⟨c, l, e, hc⟩ := ih (n / 10) (by omega) h0
      exact ⟨c, l ++ _, by rw [e]; rfl, hc⟩
theorem text_ne (n : Nat) : textOf n ≠ [] := by
  unfold textOf
  split
  · simp
  · rename_i h; obtain ⟨c, l, e, _⟩ := dec_head n h; rw [e]; simp
theorem dval_text (n : Nat) : dval (textOf n) = n := by
  unfold textOf
  split
  · rename_i h; rw [h]; rfl
  · exact dval_dec n
/-- Parse of text gives back. -/
theorem parse_text (n : Nat) (h : (textOf n).length ≤ 400) : parseErr (textOf n) = 0 ∧ parseVal (textOf n) = n := by
  have e : parseErr (textOf n) = 0 := by
    have h1 : ¬ (textOf n = [] ∨ (1 < (textOf n).length ∧ (textOf n).getD 0 0 = 48)) := by
      rintro (hh | ⟨h2, h3⟩)
      · exact text_ne n hh
      · unfold textOf at h2 h3
        split at h2
        · simp at h2
        · rename_i hn
          rw [if_neg hn] at h3
          obtain ⟨c, l, e, hc⟩ := dec_head n hn
          rw [e] at h3
          exact hc h3
    have h2 : (textOf n).all isDig = true := by
      unfold textOf
      split
      · rfl
      · exact dec_digits n
    rw [parseErr, if_neg h1, if_pos h2, if_neg (by omega)]
  exact ⟨e, by rw [parseVal, if_pos e, dval_text]⟩
theorem dec_dval (l : List UInt8) : ∀ n, l.length = n → (l = [] ∨ l.getD 0 0 ≠ 48) → l.all isDig = true → dec (dval l) = l := by
  intro n
  induction n generalizing l with
  | zero => intro hn _ _; have := List.eq_nil_of_length_eq_zero hn; subst this; rw [dval_nil, dec_zero]
  | succ n ih =>
    intro hn hh ha
    have hne : l ≠ [] := fun e => by rw [e] at hn; simp at hn
    obtain ⟨m, c, rfl⟩ : ∃ m c, l = m ++ [c] := ⟨l.dropLast, l.getLast hne, (List.dropLast_concat_getLast hne).symm⟩
    have hml : m.length = n := by simpa using hn
    have ha2 : m.all isDig = true ∧ isDig c = true := by simpa [List.all_append] using ha
    have hc : 48 ≤ c.toNat ∧ c.toNat ≤ 57 := by simpa [isDig] using ha2.2
    have hh2 : m = [] ∨ m.getD 0 0 ≠ 48 := by
      cases m with
      | nil => exact .inl rfl
      | cons x m => exact .inr (by rcases hh with h | h; simp at h; simpa using h)
    have hi := ih m hml hh2 ha2.1
    have hv : dval (m ++ [c]) = dval m * 10 + (c.toNat - 48) := dval_snoc m c
    have hpos : dval (m ++ [c]) ≠ 0 := by
      rw [hv]
      cases m with
      | nil =>
        have h3 : c ≠ 48 := by rcases hh with h | h; simp at h; simpa using h
        have : c.toNat ≠ 48 := fun e => h3 (UInt8.toNat_inj.1 (by rw [e]; rfl))
        omega
      | cons x m =>
        have : dval (x :: m) ≠ 0 := fun e => by rw [e, dec_zero] at hi; cases hi
        omega
    rw [dec_pos _ hpos, hv, show (dval m * 10 + (c.toNat - 48)) / 10 = dval m by omega, show (dval m * 10 + (c.toNat - 48)) % 10 = c.toNat - 48 by omega, hi]
    congr 2
    exact UInt8.toNat_inj.1 (by simp; omega)
/-- Text of parse gives back. -/
theorem text_parse (l : List UInt8) (h : parseErr l = 0) : textOf (parseVal l) = l := by
  rw [parseVal, if_pos h]
  unfold parseErr at h
  split at h
  · cases h
  · rename_i h1
    split at h
    · rename_i ha
      by_cases h2 : l.getD 0 0 = 48
      · have h3 : l.length = 1 := by
          have : l ≠ [] := fun e => h1 (.inl e)
          have : 0 < l.length := List.length_pos_iff.2 this
          have : ¬ 1 < l.length := fun e => h1 (.inr ⟨e, h2⟩)
          omega
        obtain ⟨c, rfl⟩ := List.length_eq_one_iff.1 h3
        have : c = 48 := by simpa using h2
        subst this; rfl
      · have e := dec_dval l l.length rfl (.inr h2) ha
        have hne : l ≠ [] := fun e => h1 (.inl e)
        have h0 : dval l ≠ 0 := fun e2 => by rw [e2, dec_zero] at e; exact hne e.symm
        rw [textOf, if_neg h0, e]
    · cases h
end Go.Proofs.YtlloghbaggdhnaaDoor
