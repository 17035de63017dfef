/- Walks: nat.Div. -/
import Derived.Test.YtlloghbaggdhnaaDoorNatL
import Derived.Deep.RegionWith
set_option linter.unusedVariables false
set_option linter.unusedSimpArgs false
namespace Go.Proofs.YtlloghbaggdhnaaDoor
open Go.RowKit

def RetDiv (w : World) (q r : Nat) (b : Bool) (e : Ending) (w' : World) : Prop := e = .returned (.tuple #[.string (ns q), .string (ns r), .bool b]) ∧ Below w.heap.size w w'

theorem ns_zero : ns 0 = ⟨#[]⟩ := by unfold ns; rw [nb_zero]
theorem ns_pos_size {n : Nat} (h : n ≠ 0) : (ns n).size ≠ 0 := by
  obtain ⟨b, l, e, _⟩ := nb_head n h
  rw [ns_size, e]; simp

theorem below_two {w w1 w2 : World} (h1 : Below w.drew.heap.size w.drew w1) (h2 : Below w1.heap.size w1 w2) : Below w.heap.size w w2 :=
  ((((Below.refl w.heap.size w).drew).trans h1).trans (h2.mono h1.size))
theorem small_gen (n : Int) (w : World) (h0 : 0 ≤ n) (hn : n ≤ 18446744073709551615) :
    Calls Tryd.prog 137 #[.int .u64 n] w fun e w' => e = .returned (.string (ns n.toNat)) ∧ Below w.heap.size w w' := by
  obtain ⟨k, rfl⟩ := Int.eq_ofNat_of_zero_le h0
  exact small_any k w (by omega)

set_option maxRecDepth 100000 in
set_option maxHeartbeats 1000000 in
theorem div_small (a b : ByteArray) (w : World) (ha : a.size ≤ 137438953472) (hb : b.size ≤ 137438953472) (h0 : vn b ≠ 0) (h8 : (ns (vn a)).size ≤ 8) (h8b : (ns (vn b)).size ≤ 8) :
    Calls Tryd.prog 134 #[.string a, .string b] w (RetDiv w (vn a / vn b) (vn a % vn b) true) := by
  have HT1 := fun w => trim_any a w (by unfold maxLen; omega)
  have HT2 := fun w => trim_any b w (by unfold maxLen; omega)
  have HW1 := fun w => word_any (ns (vn a)) w h8
  have HW2 := fun w => word_any (ns (vn b)) w h8b
  have n1 := toList_ne _ (ns_pos_size h0)
  have n2 := isEmpty_false _ (ns_pos_size h0)
  have la := vn_ns_lt8 h8
  have lb := vn_ns_lt8 h8b
  rw [vn_ns] at HW1 HW2
  generalize ns (vn a) = A at *
  generalize ns (vn b) = B at *
  generalize vn a = x at *
  generalize vn b = y at *
  have y0 : 0 < y := by omega
  have hq : (x : Int) / (y : Int) = ((x / y : Nat) : Int) := (Int.natCast_ediv x y).symm
  have hr : (x : Int) % (y : Int) = ((x % y : Nat) : Int) := (Int.natCast_emod x y).symm
  have hq2 : (x : Int).tdiv (y : Int) = ((x / y : Nat) : Int) := (Int.ofNat_tdiv x y).symm
  have hr2 : (x : Int).tmod (y : Int) = ((x % y : Nat) : Int) := (Int.ofNat_tmod x y).symm
  have lq : x / y < 18446744073709551616 := Nat.lt_of_le_of_lt (Nat.div_le_self _ _) la
  have lr : x % y < 18446744073709551616 := Nat.lt_of_le_of_lt (Nat.mod_le _ _) la
  have lq' : x / y ≤ 18446744073709551615 := by omega
  have lr' : x % y ≤ 18446744073709551615 := by omega
  generalize x / y = q at *
  generalize x % y = r at *
  have hne : ((y : Int) == 0) = false := by simp; omega
  have hwq : IntKind.u64.wrap (q : Int) = (q : Int) := by rw [IntKind.wrap_u64]; omega
  have G1 := Lib.hid HT1
  have G2 := Lib.hid HT2
  have G3 := Lib.hid HW1
  have G4 := Lib.hid HW2
  clear HT1 HT2 HW1 HW2 la lb lq lr h0
  go_enter Tryd.func134, Tryd.ntmps134
  go_wp2_with (fail)
  refine (G1.out _).mono ?_; rintro e w' ⟨rfl, rfl⟩
  go_wp2_with (fail)
  refine (G2.out _).mono ?_; rintro e w' ⟨rfl, rfl⟩
  go_wp2_with (fail)
  refine (G3.out _).mono ?_; rintro e w' ⟨rfl, rfl⟩
  go_wp2_with (fail)
  refine (G4.out _).mono ?_; rintro e w' ⟨rfl, rfl⟩
  go_wp2_with (fail)
  clear n1 n2
  go_region_with (go_at_call 137; refine (small_gen _ _ (by omega) (by omega)).mono ?_; rintro e w' ⟨rfl, hb⟩)
  all_goals go_wp2
  all_goals (go_ret3; exact ⟨rfl, below_two (by assumption) hb⟩)

set_option maxRecDepth 100000 in
set_option maxHeartbeats 1000000 in
theorem div_zero (a b : ByteArray) (w : World) (ha : a.size ≤ 137438953472) (hb : b.size ≤ 137438953472) (h0 : vn b = 0) :
    Calls Tryd.prog 134 #[.string a, .string b] w (RetDiv w 0 0 false) := by
  have HT1 := fun w => trim_any a w (by unfold maxLen; omega)
  have HT2 := fun w => trim_any b w (by unfold maxLen; omega)
  rw [h0, ns_zero] at HT2
  generalize ns (vn a) = A at *
  have G1 := Lib.hid HT1
  have G2 := Lib.hid HT2
  have H0 : Hid (ns 0 = ⟨#[]⟩) := ns_zero
  clear HT1 HT2 h0
  go_enter Tryd.func134, Tryd.ntmps134
  go_wp2_with (fail)
  refine (G1.out _).mono ?_; rintro e w' ⟨rfl, rfl⟩
  go_wp2_with (fail)
  refine (G2.out _).mono ?_; rintro e w' ⟨rfl, rfl⟩
  go_wp2_with (fail)
  go_ret3
  exact ⟨by rw [H0.out]; rfl, Below.refl _ _⟩

theorem vn_lt_of_size {a b : Nat} (h : (ns a).size < (ns b).size) : a < b := ns_size_lt h

set_option maxRecDepth 100000 in
set_option maxHeartbeats 1000000 in
/-- The dividend of at most eight bytes, the divisor of more. -/
theorem div_short (a b : ByteArray) (w : World) (ha : a.size ≤ 137438953472) (hb : b.size ≤ 137438953472) (h8 : (ns (vn a)).size ≤ 8) (h8b : 8 < (ns (vn b)).size) :
    Calls Tryd.prog 134 #[.string a, .string b] w (RetDiv w (vn a / vn b) (vn a % vn b) true) := by
  have hlt : vn a < vn b := ns_size_lt (by omega)
  rw [Nat.div_eq_of_lt hlt, Nat.mod_eq_of_lt hlt]
  have HT1 := fun w => trim_any a w (by unfold maxLen; omega)
  have HT2 := fun w => trim_any b w (by unfold maxLen; omega)
  have hsb := ns_size_le b
  have HW1 := fun w => word_any (ns (vn a)) w h8
  have HW2 := fun w => word_long (ns (vn b)) w h8b (by unfold maxLen; omega)
  have n1 := toList_ne (ns (vn b)) (by omega)
  have n2 := isEmpty_false (ns (vn b)) (by omega)
  have la := vn_ns_lt8 h8
  rw [vn_ns] at HW1
  have HA : Hid (ns (vn a) = ns (vn a) ∧ ns 0 = ⟨#[]⟩) := ⟨rfl, ns_zero⟩
  generalize ns (vn b) = B at *
  generalize hAA : ns (vn a) = A at *
  have G1 := Lib.hid HT1
  have G2 := Lib.hid HT2
  have G3 := Lib.hid HW1
  have G4 := Lib.hid HW2
  have G5 := Lib.hid hAA
  clear HT1 HT2 HW1 HW2 la hlt hAA
  go_enter Tryd.func134, Tryd.ntmps134
  go_wp2_with (fail)
  refine (G1.out _).mono ?_; rintro e w' ⟨rfl, rfl⟩
  go_wp2_with (fail)
  refine (G2.out _).mono ?_; rintro e w' ⟨rfl, rfl⟩
  go_wp2_with (fail)
  refine (G3.out _).mono ?_; rintro e w' ⟨rfl, rfl⟩
  go_wp2_with (fail)
  refine (G4.out _).mono ?_; rintro e w' ⟨rfl, rfl⟩
  go_wp2_with (fail)
  go_ret3
  exact ⟨by rw [HA.out.2, G5.out]; rfl, Below.refl _ _⟩

set_option maxRecDepth 100000 in
set_option maxHeartbeats 1000000 in
/-- The dividend of more than eight bytes, less than the divisor. -/
theorem div_less (a b : ByteArray) (w : World) (ha : a.size ≤ 137438953472) (hb : b.size ≤ 137438953472) (h8 : 8 < (ns (vn a)).size) (hlt : vn a < vn b) :
    Calls Tryd.prog 134 #[.string a, .string b] w (RetDiv w (vn a / vn b) (vn a % vn b) true) := by
  rw [Nat.div_eq_of_lt hlt, Nat.mod_eq_of_lt hlt]
  have HT1 := fun w => trim_any a w (by unfold maxLen; omega)
  have HT2 := fun w => trim_any b w (by unfold maxLen; omega)
  have hsa := ns_size_le a
  have hsb := ns_size_le b
  have HW1 := fun w => word_long (ns (vn a)) w h8 (by unfold maxLen; omega)
  have HC := fun w => cmp_any (ns (vn a)) (ns (vn b)) w (by unfold maxLen; omega) (by unfold maxLen; omega)
  rw [vn_ns, vn_ns, cmpN, if_pos hlt] at HC
  have hb0 : (ns (vn b)).size ≠ 0 := ns_pos_size (by omega)
  have n1 := toList_ne (ns (vn b)) hb0
  have n2 := isEmpty_false (ns (vn b)) hb0
  have HA : Hid (ns (vn a) = ns (vn a) ∧ ns 0 = ⟨#[]⟩) := ⟨rfl, ns_zero⟩
  generalize ns (vn b) = B at *
  generalize hAA : ns (vn a) = A at *
  have G1 := Lib.hid HT1
  have G2 := Lib.hid HT2
  have G3 := Lib.hid HW1
  have G4 := Lib.hid HC
  have G5 := Lib.hid hAA
  clear HT1 HT2 HW1 HC hlt hAA
  go_enter Tryd.func134, Tryd.ntmps134
  go_wp2_with (fail)
  refine (G1.out _).mono ?_; rintro e w' ⟨rfl, rfl⟩
  go_wp2_with (fail)
  refine (G2.out _).mono ?_; rintro e w' ⟨rfl, rfl⟩
  go_wp2_with (fail)
  refine (G3.out _).mono ?_; rintro e w' ⟨rfl, rfl⟩
  go_wp2_with (fail)
  refine (G4.out _).mono ?_; rintro e w' ⟨rfl, rfl⟩
  go_wp2_with (fail)
  go_ret3
  exact ⟨by rw [HA.out.2, G5.out]; rfl, Below.refl _ _⟩
end Go.Proofs.YtlloghbaggdhnaaDoor
