/- Walks: nat.Div (the great cases), nat.Gcd. -/
import Derived.Test.YtlloghbaggdhnaaDoorNatM
set_option linter.unusedVariables false
set_option linter.unusedSimpArgs false
namespace Go.Proofs.YtlloghbaggdhnaaDoor
open Go.RowKit

set_option maxRecDepth 100000 in
set_option maxHeartbeats 2000000 in
theorem div_great (a b : ByteArray) (w : World) (ha : a.size ≤ 137438953472) (hb : b.size ≤ 137438953472) (h8 : 8 < (ns (vn a)).size) (h0 : vn b ≠ 0) (hle : vn b ≤ vn a) :
    Calls Tryd.prog 134 #[.string a, .string b] w (RetDiv w (vn a / vn b) (vn a % vn b) true) := by
  have HT1 := fun w => trim_any a w (by unfold maxLen; omega)
  have HT2 := fun w => trim_any b w (by unfold maxLen; omega)
  have hsa := ns_size_le a
  have hsb := ns_size_le b
  have HW1 := fun w => word_long (ns (vn a)) w h8 (by unfold maxLen; omega)
  have HC := fun w => cmp_any (ns (vn a)) (ns (vn b)) w (by unfold maxLen; omega) (by unfold maxLen; omega)
  have HS1 := fun w => split_any (ns (vn a)) w (by omega)
  have HS2 := fun w => split_any (ns (vn b)) w (by omega)
  have hva := vn_lt (ns (vn a))
  have hvb := vn_lt (ns (vn b))
  rw [vn_ns] at HS1 HS2 hva hvb
  rw [vn_ns, vn_ns] at HC
  have hc0 : 0 ≤ cmpN (vn a) (vn b) := by unfold cmpN; rw [if_neg (by omega)]; split <;> omega
  have hb0 : (ns (vn b)).size ≠ 0 := ns_pos_size h0
  have n1 := toList_ne (ns (vn b)) hb0
  have n2 := isEmpty_false (ns (vn b)) hb0
  generalize cmpN (vn a) (vn b) = c at *
  generalize ns (vn b) = B at *
  generalize ns (vn a) = A at *
  generalize vn a = x at *
  generalize vn b = y at *
  have G1 := Lib.hid HT1
  have G2 := Lib.hid HT2
  have G3 := Lib.hid HW1
  have G4 := Lib.hid HC
  have G5 : Hid (y ≠ 0 ∧ y ≤ x ∧ x < 256 ^ A.size ∧ y < 256 ^ B.size) := ⟨h0, hle, hva, hvb⟩
  have G6 := Lib.hid HS1
  have G7 := Lib.hid HS2
  clear HT1 HT2 HW1 HC HS1 HS2 h0 hle hva hvb
  go_enter Tryd.func134, Tryd.ntmps134
  go_wp2_with (fail)
  refine (G1.out _).mono ?_; rintro e w' ⟨rfl, rfl⟩
  go_wp2_with (fail)
  refine (G2.out _).mono ?_; rintro e w' ⟨rfl, rfl⟩
  go_wp2_with (fail)
  refine (G3.out _).mono ?_; rintro e w' ⟨rfl, rfl⟩
  go_wp2_with (fail)
  refine (G4.out _).mono ?_; rintro e w' ⟨rfl, rfl⟩
  go_wp2_with (fail)
  refine (G6.out _).mono ?_; rintro e w1 ⟨v1, l, rfl, hl, hcl, hvl, _, hb1⟩
  have K1 : Hid (Can l ∧ lv l = x) := ⟨hcl, hvl⟩
  clear hcl hvl
  go_wp2_with (fail)
  refine (G7.out _).mono ?_; rintro e w2 ⟨v2, m, rfl, hm, hcm, hvm, _, hb2⟩
  have K2 : Hid (Can m ∧ lv m = y) := ⟨hcm, hvm⟩
  clear hcm hvm
  have hl2 := hl.ext hb2
  have hll := limbs_le K1.out.1 K1.out.2 G5.out.2.2.1
  have hml := limbs_le K2.out.1 K2.out.2 G5.out.2.2.2
  have hb12 := hb1.trans (hb2.mono hb1.size)
  clear hl hb1 hb2
  have hm2 := hm
  obtain ⟨a2, p2, rfl, hnc2, hcm2, hcm⟩ := hm.op
  unfold maxLen at hcm2
  have hm1 : 0 < m.length := by
    rcases Nat.eq_zero_or_pos m.length with h | h
    · have := List.eq_nil_of_length_eq_zero h
      have h2 := K2.out.2
      rw [this] at h2
      exact absurd h2.symm G5.out.1
    · exact h
  by_cases hone : m.length = 1
  · obtain ⟨d, rfl⟩ : ∃ d, m = [d] := List.length_eq_one_iff.1 hone
    obtain ⟨⟨b2, o2, rfl, hc2⟩, hd⟩ := hcm 0 (by simp)
    simp only [List.getD_cons_zero, Nat.add_zero] at hc2 hd
    have hdy : d = y := by have := K2.out.2; simpa [lv_cons, lv_nil] using this
    subst hdy
    have hd0 : 0 < d := by have := G5.out.1; omega
    have HBY := by_any l v1 d w2 hl2 hd0 hd (by omega)
    rw [K1.out.2] at HBY
    have hmod : x % d < d := Nat.mod_lt _ (by omega)
    have hq : x / d ≤ x := Nat.div_le_self _ _
    have G8 : Hid (x % d < 4294967296 ∧ x / d ≤ x) := ⟨by omega, hq⟩
    clear hcm hm hm2 hone hmod hq
    generalize x / d = q at *
    generalize x % d = r at *
    have HH := Lib.hid HBY
    clear HBY
    simp only [List.length_cons, List.length_nil, Nat.zero_add]
    go_wp2_with (fail)
    refine HH.out.mono ?_; rintro e w3 ⟨v3, n, rfl, hn, hcn, hvn, _, hb3⟩
    have K3 : Hid (lv n = q ∧ Can n) := ⟨hvn, hcn⟩
    clear hvn hcn
    have hnl : n.length ≤ (A.size + 3) / 4 := limbs_le K3.out.2 K3.out.1 (by have := G8.out.2; have := G5.out.2.2.1; omega)
    have hr32 : (r : Int) ≤ 4294967295 := by have := G8.out.1; omega
    go_wp2_with (fail)
    refine (lnat_any n v3 w3 hn (by omega)).mono ?_; rintro e w4 ⟨rfl, hb4⟩
    rw [K3.out.1]
    go_wp2_with (fail)
    refine (small_any r w4 (by omega)).mono ?_; rintro e w5 ⟨rfl, hb5⟩
    go_wp2_with (fail)
    go_ret3
    have s1 := hb12.size; have s2 := hb3.size; have s3 := hb4.size
    exact ⟨rfl, ((hb12.trans (hb3.mono s1)).trans (hb4.mono (by omega))).trans (hb5.mono (by omega))⟩
  · have hb1 : ((m.length : Int) == 1) = false := by simp; omega
    have HLN := long_any l m v1 _ w2 hl2 hm2 K2.out.1 (by rw [K2.out.2]; have := G5.out.1; omega) (by omega) (by omega)
    rw [K1.out.2, K2.out.2] at HLN
    have HH := Lib.hid HLN
    have hq : x / y ≤ x := Nat.div_le_self _ _
    have hr : x % y ≤ x := Nat.mod_le _ _
    have G8 : Hid (x / y < 256 ^ A.size ∧ x % y < 256 ^ A.size) := by have := G5.out.2.2.1; exact ⟨by omega, by omega⟩
    clear HLN hcm hm hm2 hone hq hr
    generalize x / y = q at *
    generalize x % y = r at *
    go_wp2_with (fail)
    refine HH.out.mono ?_; rintro e w3 ⟨v3, n, v4, u, rfl, hn, hcn, hvn, hu, hcu, hvu, hb3⟩
    have K3 : Hid (lv n = q ∧ Can n ∧ lv u = r ∧ Can u) := ⟨hvn, hcn, hvu, hcu⟩
    clear hvn hcn hvu hcu
    have hnl : n.length ≤ (A.size + 3) / 4 := limbs_le K3.out.2.1 K3.out.1 G8.out.1
    have hul : u.length ≤ (A.size + 3) / 4 := limbs_le K3.out.2.2.2 K3.out.2.2.1 G8.out.2
    go_wp2_with (fail)
    refine (lnat_any n v3 w3 hn (by omega)).mono ?_; rintro e w4 ⟨rfl, hb4⟩
    rw [K3.out.1]
    go_wp2_with (fail)
    refine (lnat_any u v4 w4 (hu.ext hb4) (by omega)).mono ?_; rintro e w5 ⟨rfl, hb5⟩
    rw [K3.out.2.2.1]
    go_wp2_with (fail)
    go_ret3
    have s1 := hb12.size; have s2 := hb3.size; have s3 := hb4.size
    exact ⟨rfl, ((hb12.trans (hb3.mono s1)).trans (hb4.mono (by omega))).trans (hb5.mono (by omega))⟩

theorem div_any (a b : ByteArray) (w : World) (ha : a.size ≤ 137438953472) (hb : b.size ≤ 137438953472) (h0 : vn b ≠ 0) :
    Calls Tryd.prog 134 #[.string a, .string b] w (RetDiv w (vn a / vn b) (vn a % vn b) true) := by
  by_cases h8 : (ns (vn a)).size ≤ 8
  · by_cases h8b : (ns (vn b)).size ≤ 8
    · exact div_small a b w ha hb h0 h8 h8b
    · exact div_short a b w ha hb h8 (by omega)
  · rcases Nat.lt_or_ge (vn a) (vn b) with h | h
    · exact div_less a b w ha hb (by omega) h
    · exact div_great a b w ha hb (by omega) h0 h

/-- The number in a slot. -/
def strVal : Value → Nat | .string t => vn t | _ => 0

set_option maxRecDepth 100000 in
set_option maxHeartbeats 1000000 in
theorem gcd_any (a b : ByteArray) (w : World) (ha : a.size ≤ 137438953472) (hb : b.size ≤ 137438953472) :
    Calls Tryd.prog 133 #[.string a, .string b] w (RetNat w (Nat.gcd (vn a) (vn b))) := by
  have HT1 := fun w => trim_any a w (by unfold maxLen; omega)
  have HT2 := fun w => trim_any b w (by unfold maxLen; omega)
  have hsa := ns_size_le a
  have hsb := ns_size_le b
  have G1 := Lib.hid HT1
  have G2 := Lib.hid HT2
  generalize hg : Nat.gcd (vn a) (vn b) = g at *
  generalize vn a = x at *
  generalize vn b = y at *
  have G3 := Lib.hid hg
  clear HT1 HT2 hg
  go_enter Tryd.func133, Tryd.ntmps133
  go_wp2_with (fail)
  refine (G1.out _).mono ?_; rintro e w' ⟨rfl, rfl⟩
  go_wp2_with (fail)
  refine (G2.out _).mono ?_; rintro e w' ⟨rfl, rfl⟩
  go_wp2_with (fail)
  go_loopw [0, 1] (fun u v wr => ∃ p q : Nat, u = .string (ns p) ∧ v = .string (ns q) ∧ (ns p).size ≤ 137438953472 ∧ (ns q).size ≤ 137438953472 ∧ Nat.gcd p q = g ∧ Below w.heap.size w wr) (fun _ v _ => strVal v)
  case atStart => exact ⟨x, y, rfl, rfl, by omega, by omega, G3.out, Below.refl _ _⟩
  case round =>
    obtain ⟨p, q, rfl, rfl, hp, hq, hgc, hbr⟩ := hrel
    by_cases h0 : q = 0
    · subst h0
      have n1 := toList_nil (ns 0) (by rw [ns_zero]; rfl)
      have H : Hid (g = p) := by rw [Hid, ← hgc, Nat.gcd_zero_right]
      clear hgc
      go_wp2_with (fail)
      go_ret
      exact ⟨ret_str (by rw [H.out]), hbr⟩
    · have n1 := toList_ne (ns q) (ns_pos_size h0)
      have n2 := isEmpty_false (ns q) (ns_pos_size h0)
      have n3 : (!(ns q).toList.isEmpty) = true := by rw [n2]; rfl
      have hd := div_any (ns p) (ns q) wr hp hq (by rw [vn_ns]; exact h0)
      rw [vn_ns, vn_ns] at hd
      have hlt : p % q < q := Nat.mod_lt _ (by omega)
      have hsz : (ns (p % q)).size ≤ (ns q).size := by rw [ns_size, ns_size]; exact nb_mono (by omega)
      have H : Hid (p % q < q ∧ Nat.gcd q (p % q) = g ∧ (ns (p % q)).size ≤ (ns q).size) := ⟨hlt, by rw [← hgc, Nat.gcd_comm q, ← Nat.gcd_rec, Nat.gcd_comm], hsz⟩
      have HD := Lib.hid hd
      clear hlt hgc hd h0 hsz
      go_wp2_with (fail)
      refine HD.out.mono ?_; rintro e w1 ⟨rfl, hb1⟩
      go_wp2_with (fail)
      refine ⟨⟨q, p % q, rfl, rfl, hq, ?_, H.out.2.1, hbr.trans (hb1.mono hbr.size)⟩, ?_⟩
      · have := H.out.2.2; omega
      · simp only [strVal, vn_ns]; exact H.out.1
end Go.Proofs.YtlloghbaggdhnaaDoor
