/- The walk of the law NatBack: it returns true. Condition: strings within the form's own reach. -/
import Derived.Test.YtbpdgfilffdegaaDoorNatS
set_option linter.unusedVariables false
set_option linter.unusedSimpArgs false
namespace Go.Proofs.YtbpdgfilffdegaaDoor
open Go.RowKit

theorem bytes_text (n : Nat) : (⟨(textOf n).toArray⟩ : ByteArray).data.toList = textOf n := rfl
theorem size_text (n : Nat) : (⟨(textOf n).toArray⟩ : ByteArray).size = (textOf n).length := List.size_toArray
theorem dval_lt (l : List UInt8) : dval l < 256 ^ l.length := by
  have key : ∀ (l : List UInt8) (n k : Nat), n < 256 ^ k → l.foldl (fun n c => n * 10 + (c.toNat - 48)) n < 256 ^ (k + l.length) := by
    intro l
    induction l with
    | nil => intro n k h; simpa using h
    | cons c l ih =>
      intro n k h
      rw [List.foldl_cons, List.length_cons, show k + (l.length + 1) = (k + 1) + l.length by omega]
      refine ih _ _ ?_
      have := c.toNat_lt
      rw [Nat.pow_succ]; omega
  have := key l 0 0 (by simp)
  simpa [dval] using this
theorem text_le (n k : Nat) (h : n < 256 ^ k) : (textOf n).length ≤ 3 * k + 1 := by
  unfold textOf
  split
  · simp
  · have := dec_le n k h; omega

set_option maxRecDepth 100000 in
set_option maxHeartbeats 1000000 in
theorem natBack_great (a s : ByteArray) (w : World) (ha : a.size ≤ 140737488351232) (hs : s.size ≤ 140737488351232) (h : 700 < a.size + s.size) :
    Calls Tryd.prog 6 #[.string a, .string s] w (RetBool w true) := by
  go_enter Tryd.func6, Tryd.ntmps6
  go_wp2_with fail
  go_ret
  exact ⟨rfl, Below.refl _ _⟩

set_option maxRecDepth 100000 in
set_option maxHeartbeats 2000000 in
theorem natBack_small (a s : ByteArray) (w : World) (h : a.size + s.size ≤ 700) :
    Calls Tryd.prog 6 #[.string a, .string s] w (RetBool w true) := by
  have hva := vn_lt a
  have htl := text_le (vn a) _ hva
  have hT := fun w => text_any a w (by omega)
  have hTs := size_text (vn a)
  have hne : (⟨(textOf (vn a)).toArray⟩ : ByteArray).size ≠ 0 := by
    rw [hTs]; intro e; exact text_ne (vn a) (List.eq_nil_of_length_eq_zero e)
  have hP := fun w => parse_any ⟨(textOf (vn a)).toArray⟩ w (by rw [hTs]; unfold maxLen; omega)
  rw [bytes_text] at hP
  have hpt := parse_text (vn a)
  have hTr := fun w => trim_any a w (by unfold maxLen; omega)
  have hPs := fun w => parse_any s w (by unfold maxLen; omega)
  have n1 := toList_ne _ hne
  have n2 := isEmpty_false _ hne
  generalize hTT : (⟨(textOf (vn a)).toArray⟩ : ByteArray) = T at *
  have n3 : (!T.toList.isEmpty) = true := by rw [n2]; rfl
  rw [hTs.symm] at hpt htl
  have K : Hid ((T.size ≤ 400 → parseErr (textOf (vn a)) = 0 ∧ parseVal (textOf (vn a)) = vn a) ∧ (parseErr s.data.toList = 0 → textOf (parseVal s.data.toList) = s.data.toList)) := ⟨hpt, text_parse _⟩
  generalize parseErr (textOf (vn a)) = e1 at *
  generalize parseVal (textOf (vn a)) = x1 at *
  generalize hx2 : parseVal s.data.toList = x2 at *
  generalize he2 : parseErr s.data.toList = e2 at *
  have hx2s : (ns x2).size ≤ 700 := by
    rcases Nat.eq_zero_or_pos e2 with h0 | h0
    · have hv := dval_lt s.data.toList
      rw [bytes_size] at hv
      have : x2 = dval s.data.toList := by rw [← hx2, parseVal, if_pos (by rw [he2]; exact h0)]
      rw [ns_size, this]
      have h3 : dval s.data.toList < 256 ^ s.size := Nat.lt_of_lt_of_le hv (Nat.pow_le_pow_left (by omega) _)
      have := nb_length_lt h3
      omega
    · have : x2 = 0 := by rw [← hx2, parseVal, if_neg (by rw [he2]; omega)]
      rw [this, ns_zero]; exact Nat.zero_le _
  have hTx := fun w => text_any (ns x2) w (by omega)
  rw [vn_ns] at hTx
  have hG5 := Lib.hid hTx
  have hG1 := Lib.hid hT
  have hG2 := Lib.hid hP
  have hG3 := Lib.hid hTr
  have hG4 := Lib.hid hPs
  have K2 : Hid (parseErr s.data.toList = e2 ∧ parseVal s.data.toList = x2) := ⟨he2, hx2⟩
  have K3 := Lib.hid hTT
  clear hT hP hTr hPs hpt hTs hTT hx2 he2 hva hne hTx hx2s
  go_enter Tryd.func6, Tryd.ntmps6
  go_wp2_with fail
  refine (hG1.out _).mono ?_; rintro e w1 ⟨rfl, hb1⟩
  rw [K3.out]
  go_wp2_with fail
  refine (hG2.out _).mono ?_; rintro e w2 ⟨rfl, hb2⟩
  have hs1 := hb1.size
  have hs2 := hb2.size
  by_cases h4 : T.size ≤ 400
  · obtain ⟨he, hx⟩ := K.out.1 h4
    subst he
    subst hx
    go_wp2_with (go_at_call 37; refine (hG3.out _).mono ?_; rintro e w' ⟨rfl, rfl⟩)
    refine (hG4.out _).mono ?_; rintro e w3 ⟨rfl, hb3⟩
    by_cases h5 : e2 = 0
    · have hts : Hid ((⟨(textOf x2).toArray⟩ : ByteArray) = s) := bytes_ext (K.out.2 h5)
      subst h5
      go_wp2_with fail
      refine (hG5.out _).mono ?_; rintro e w4 ⟨rfl, hb4⟩
      rw [hts.out]
      go_wp2_with fail
      go_ret
      exact ⟨rfl, ((hb1.trans (hb2.mono hs1)).trans (hb3.mono (Nat.le_trans hs1 hs2))).trans (hb4.mono (Nat.le_trans (Nat.le_trans hs1 hs2) hb3.size))⟩
    · have h6 : ((e2 : Int) != 0) = true := by simp; omega
      go_wp2_with fail
      go_ret
      exact ⟨rfl, ((hb1.trans (hb2.mono hs1)).trans (hb3.mono (Nat.le_trans hs1 hs2)))⟩
  · have h4' : 400 < T.size := by omega
    go_wp2_with (go_at_call 37; refine (hG3.out _).mono ?_; rintro e w' ⟨rfl, rfl⟩)
    refine (hG4.out _).mono ?_; rintro e w3 ⟨rfl, hb3⟩
    by_cases h5 : e2 = 0
    · have hts : Hid ((⟨(textOf x2).toArray⟩ : ByteArray) = s) := bytes_ext (K.out.2 h5)
      subst h5
      go_wp2_with fail
      refine (hG5.out _).mono ?_; rintro e w4 ⟨rfl, hb4⟩
      rw [hts.out]
      go_wp2_with fail
      go_ret
      exact ⟨rfl, ((hb1.trans (hb2.mono hs1)).trans (hb3.mono (Nat.le_trans hs1 hs2))).trans (hb4.mono (Nat.le_trans (Nat.le_trans hs1 hs2) hb3.size))⟩
    · have h6 : ((e2 : Int) != 0) = true := by simp; omega
      go_wp2_with fail
      go_ret
      exact ⟨rfl, ((hb1.trans (hb2.mono hs1)).trans (hb3.mono (Nat.le_trans hs1 hs2)))⟩

theorem natBack_any (a s : ByteArray) (w : World) (ha : a.size ≤ 140737488351232) (hs : s.size ≤ 140737488351232) :
    Calls Tryd.prog 6 #[.string a, .string s] w (RetBool w true) := by
  rcases Nat.lt_or_ge 700 (a.size + s.size) with h | h
  · exact natBack_great a s w ha hs h
  · exact natBack_small a s w h
end Go.Proofs.YtbpdgfilffdegaaDoor
