/- Walks: strings.Compare, nat.Cmp, nat.Sub. -/
import Derived.Test.YtlloghbaggdhnaaDoorNatJ
import Derived.Lib.Bytealg
set_option linter.unusedVariables false
set_option linter.unusedSimpArgs false
namespace Go.Proofs.YtlloghbaggdhnaaDoor
open Go.RowKit

def cmpN (a b : Nat) : Int := if a < b then -1 else if a = b then 0 else 1

theorem compare_same : ∀ (l m : List UInt8), l.length = m.length → Lib.compareBytes l m = cmpN (nv l) (nv m)
  | [], [], _ => by simp [Lib.compareBytes, cmpN]
  | a :: l, b :: m, h => by
    have hl : l.length = m.length := by simpa using h
    have ih := compare_same l m hl
    rw [Lib.compareBytes, ih, nv_cons, nv_cons, hl]
    have h1 := nv_lt l
    have h2 := nv_lt m
    rw [hl] at h1
    unfold cmpN
    rcases Nat.lt_trichotomy a.toNat b.toNat with hab | hab | hab
    · have : a < b := hab
      rw [if_pos this]
      have := Nat.mul_le_mul_right (256 ^ m.length) (show a.toNat + 1 ≤ b.toNat by omega)
      rw [Nat.add_mul] at this
      rw [if_pos (by omega)]
    · have e : a = b := UInt8.toNat_inj.1 hab
      subst e
      have n1 : ¬ a < a := fun h => by have : a.toNat < a.toNat := h; omega
      rw [if_neg n1, if_neg n1]
      congr 1
      · simp
      · simp
    · have h3 : b < a := hab
      have h4 : ¬ a < b := fun h => by have : a.toNat < b.toNat := h; omega
      rw [if_neg h4, if_pos h3]
      have := Nat.mul_le_mul_right (256 ^ m.length) (show b.toNat + 1 ≤ a.toNat by omega)
      rw [Nat.add_mul] at this
      rw [if_neg (by omega), if_neg (by omega)]

set_option maxRecDepth 100000 in
theorem compareString_any (a b : ByteArray) (w : World) :
    Calls Tryd.prog 192 #[.string a, .string b] w fun e w' => e = .returned (.int .i64 (Lib.compareBytes a.data.toList b.data.toList)) ∧ w = w' := by
  go_enter Tryd.func192, Tryd.ntmps192
  go_wp2_with (fail)
  rw [run_callFunc_extern Tryd.func202 (by kernel_rfl) (by kernel_rfl) (by kernel_rfl) (e := Extern.BytealgCompare.compare) (by kernel_rfl), Lib.run_compareString]
  simp only [Result.andThen]
  rw [Oper.upon_value]
  go_wp2
  go_ret
  exact ⟨rfl, rfl⟩
theorem compare_any (a b : ByteArray) (w : World) :
    Calls Tryd.prog 174 #[.string a, .string b] w fun e w' => e = .returned (.int .i64 (Lib.compareBytes a.data.toList b.data.toList)) ∧ w = w' := by
  go_enter Tryd.func174, Tryd.ntmps174
  go_wp2_with (go_at_call 192; refine (compareString_any _ _ _).mono ?_; rintro e w' ⟨rfl, rfl⟩)
  go_ret
  exact ⟨rfl, rfl⟩

theorem ns_size_lt {a b : Nat} (h : (ns a).size < (ns b).size) : a < b := by
  rw [ns_size, ns_size] at h
  rcases Nat.lt_or_ge a b with h1 | h1
  · exact h1
  · have := nb_mono h1; omega

set_option maxHeartbeats 1000000 in
theorem cmp_any (a b : ByteArray) (w : World) (ha : a.size ≤ maxLen) (hb : b.size ≤ maxLen) :
    Calls Tryd.prog 135 #[.string a, .string b] w fun e w' => e = .returned (.int .i64 (cmpN (vn a) (vn b))) ∧ w = w' := by
  have hA := ns_size_le a
  have hB := ns_size_le b
  have h1 := @ns_size_lt (vn a) (vn b)
  have h2 := @ns_size_lt (vn b) (vn a)
  have hcp := compare_any (ns (vn a)) (ns (vn b)) w
  have h3 : (ns (vn a)).size = (ns (vn b)).size → Lib.compareBytes (ns (vn a)).data.toList (ns (vn b)).data.toList = cmpN (vn a) (vn b) := fun h => by
    rw [compare_same _ _ (by rw [bytes_size, bytes_size]; exact h)]
    have e1 : nv (ns (vn a)).data.toList = vn a := vn_ns _
    have e2 : nv (ns (vn b)).data.toList = vn b := vn_ns _
    rw [e1, e2]
  unfold maxLen at ha hb
  have HT1 := fun w => trim_any a w (by unfold maxLen; exact ha)
  have HT2 := fun w => trim_any b w (by unfold maxLen; exact hb)
  generalize ns (vn a) = A at *
  generalize ns (vn b) = B at *
  have G1 := Lib.hid HT1
  have G2 := Lib.hid HT2
  clear HT1 HT2
  rcases Nat.lt_trichotomy A.size B.size with hlt | heq | hgt
  · have hd : ((A.size : Int) != (B.size : Int)) = true := by simp; omega
    have H : Hid (cmpN (vn a) (vn b) = -1) := by rw [Hid, cmpN, if_pos (h1 hlt)]
    clear h1 h2 h3 hcp
    go_enter Tryd.func135, Tryd.ntmps135
    go_wp2_with (fail)
    refine (G1.out _).mono ?_; rintro e w' ⟨rfl, rfl⟩
    go_wp2_with (fail)
    refine (G2.out _).mono ?_; rintro e w' ⟨rfl, rfl⟩
    go_wp2_with (fail)
    go_ret
    exact ⟨ret_int H.out.symm, rfl⟩
  · have hd : ((A.size : Int) != (B.size : Int)) = false := by simp [heq]
    rw [h3 heq] at hcp
    have HC := Lib.hid hcp
    clear h1 h2 h3 hcp heq
    go_enter Tryd.func135, Tryd.ntmps135
    go_wp2_with (fail)
    refine (G1.out _).mono ?_; rintro e w' ⟨rfl, rfl⟩
    go_wp2_with (fail)
    refine (G2.out _).mono ?_; rintro e w' ⟨rfl, rfl⟩
    go_wp2_with (fail)
    refine HC.out.mono ?_; rintro e w' ⟨rfl, rfl⟩
    go_wp2_with (fail)
    go_ret
    exact ⟨rfl, rfl⟩
  · have hd : ((A.size : Int) != (B.size : Int)) = true := by simp; omega
    have H : Hid (cmpN (vn a) (vn b) = 1) := by have := h2 hgt; rw [Hid, cmpN, if_neg (by omega), if_neg (by omega)]
    clear h1 h2 h3 hcp
    go_enter Tryd.func135, Tryd.ntmps135
    go_wp2_with (fail)
    refine (G1.out _).mono ?_; rintro e w' ⟨rfl, rfl⟩
    go_wp2_with (fail)
    refine (G2.out _).mono ?_; rintro e w' ⟨rfl, rfl⟩
    go_wp2_with (fail)
    go_ret
    exact ⟨ret_int H.out.symm, rfl⟩

def RetNatB (w : World) (n : Nat) (b : Bool) (e : Ending) (w' : World) : Prop := e = .returned (.tuple #[.string (ns n), .bool b]) ∧ Below w.heap.size w w'

set_option maxHeartbeats 1000000 in
theorem sub_no (a b : ByteArray) (w : World) (ha : a.size ≤ maxLen) (hb : b.size ≤ maxLen) (h : vn a < vn b) :
    Calls Tryd.prog 72 #[.string a, .string b] w (RetNatB w 0 false) := by
  have hc := cmp_any a b w ha hb
  rw [cmpN, if_pos h] at hc
  have HC := Lib.hid hc
  clear hc h
  go_enter Tryd.func72, Tryd.ntmps72
  go_wp2_with (fail)
  refine HC.out.mono ?_; rintro e w' ⟨rfl, rfl⟩
  go_wp2_with (fail)
  go_ret2
  exact ⟨by rw [show ns 0 = ⟨#[]⟩ by unfold ns; rw [nb_zero]]; rfl, Below.refl _ _⟩

set_option maxRecDepth 100000 in
set_option maxHeartbeats 1000000 in
theorem sub_yes (a b : ByteArray) (w : World) (ha : a.size ≤ 274877906944) (hb : b.size ≤ 274877906944) (h : vn b ≤ vn a) :
    Calls Tryd.prog 72 #[.string a, .string b] w (RetNatB w (vn a - vn b) true) := by
  have hc := cmp_any a b w (by unfold maxLen; omega) (by unfold maxLen; omega)
  have hva := vn_lt a
  have hvb := vn_lt b
  have h0 : 0 ≤ cmpN (vn a) (vn b) := by unfold cmpN; rw [if_neg (by omega)]; split <;> omega
  generalize cmpN (vn a) (vn b) = c at *
  have HC := Lib.hid hc
  have H : Hid (vn b ≤ vn a ∧ vn a < 256 ^ a.size ∧ vn b < 256 ^ b.size) := ⟨h, hva, hvb⟩
  clear hc h hva hvb
  go_enter Tryd.func72, Tryd.ntmps72
  go_wp2_with (fail)
  refine HC.out.mono ?_; rintro e w' ⟨rfl, rfl⟩
  go_wp2_with (fail)
  refine (split_any a w (by omega)).mono ?_
  rintro e w1 ⟨v1, l, rfl, hl, hcl, hvl, _, hb1⟩
  have K1 : Hid (Can l ∧ lv l = vn a) := ⟨hcl, hvl⟩
  clear hcl hvl
  go_wp2_with (fail)
  refine (split_any b w1 (by omega)).mono ?_
  rintro e w2 ⟨v2, m, rfl, hm, hcm, hvm, _, hb2⟩
  have K2 : Hid (Can m ∧ lv m = vn b) := ⟨hcm, hvm⟩
  clear hcm hvm
  have hl2 := hl.ext hb2
  have hll := limbs_le K1.out.1 K1.out.2 H.out.2.1
  go_wp2_with (fail)
  refine (minus_any l m v1 v2 w2 hl2 hm (by rw [K1.out.2, K2.out.2]; exact H.out.1) ?_ (by omega)).mono ?_
  · rcases Nat.lt_or_ge l.length m.length with h | h
    · have := can_length_lt hl.2 K2.out.1 h
      rw [K1.out.2, K2.out.2] at this
      have := H.out.1; omega
    · exact h
  rintro e w3 ⟨v3, d, rfl, hd, hcd, hvd, _, hb3⟩
  have hdl : d.length ≤ (a.size + 3) / 4 := limbs_le (n := vn a - vn b) hcd (by rw [hvd, K1.out.2, K2.out.2]) (by have := H.out.2.1; omega)
  have K3 : Hid (lv d = vn a - vn b) := by rw [Hid, hvd, K1.out.2, K2.out.2]
  clear hvd hcd
  go_wp2_with (fail)
  refine (lnat_any d v3 w3 hd (by omega)).mono ?_
  rintro e w4 ⟨rfl, hb4⟩
  rw [K3.out]
  go_wp2_with (fail)
  go_ret2
  have s1 := hb1.size
  have s2 := hb2.size
  have s3 := hb3.size
  exact ⟨rfl, ((hb1.trans (hb2.mono s1)).trans (hb3.mono (by omega))).trans (hb4.mono (by omega))⟩
end Go.Proofs.YtlloghbaggdhnaaDoor
